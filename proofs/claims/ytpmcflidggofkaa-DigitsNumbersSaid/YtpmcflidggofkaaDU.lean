/-
  The page's example of digits: one word's figures.
-/
import Derived.Test.YtpmcflidggofkaaDT
namespace Go.Proofs.Ytpmcflidggofkaa
open Go Go.RowKit
def hex1 : ByteArray := ⟨#[48, 48, 48, 48, 48, 48, 48, 48, 48, 48, 48, 48, 48, 48, 102, 102]⟩
def e_hx1 : Spec := fun _ args => match args with
  | [.val (.int .u64 255)] => some (vs hex1, none, [])
  | _ => none
theorem ok_hx1 : SpecOk Try.prog 12 e_hx1 := fun m args v mo bs h hb => by
  unfold e_hx1 at h
  split at h
  · cases h
    have t : F_ Try.prog [] Try.f12 [] [] 9999 [vu 255] noMem = some (.ret (vs hex1) ⟨[], 9999⟩ true) := by kernel_rfl
    exact lift_ground (fsound (c := bodyOf Try.f12) (fun xs w => Try.call12 xs w) Try.func12 rfl (F_ret env_nil mixed rfl rfl t)) rfl rfl
  · cases h
def L_dn : List (FuncId × Spec) := (12, e_hx1) :: (9, e_read) :: (10, e_rfr) :: L_strings_TrimPrefix
theorem hE_dn : ESound Try.prog (envOf L_dn) := env_cons ok_hx1 (env_cons ok_read (env_cons ok_rfr hE_strings_TrimPrefix))
end Go.Proofs.Ytpmcflidggofkaa
