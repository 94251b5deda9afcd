/-
  What functions hand back, reckoned from their text.
-/
import Derived.Test.YtpmcflidggofkaaProg
import Derived.Test.YtpmcflidggofkaaDZ
namespace Go.Proofs.Ytpmcflidggofkaa
open Go Go.RowKit
def s_haymowlaw03_awake : AV := AV.val (Value.bool true)
theorem t_haymowlaw03_awake : F_ Try.prog L_dz Try.f7 [] [] 99 [] noMem = some (.ret (s_haymowlaw03_awake) { bl := [], nx := 99 } true) := by kernel_rfl
def e_haymowlaw03_awake : Spec := fun _ args => match args with
  | [] => some (s_haymowlaw03_awake , none, [])
  | _ => none
theorem ok_haymowlaw03_awake : SpecOk Try.prog 7 e_haymowlaw03_awake := fun m args v mo bs h hb => by
  unfold e_haymowlaw03_awake at h
  split at h
  · cases h
    exact pure_fn (c := bodyOf Try.f7) hE_dz mixed (fun xs w => Try.call7 xs w) Try.func7 rfl (t_haymowlaw03_awake) rfl rfl
  · cases h
def L_haymowlaw03_awake : List (FuncId × Spec) := (7, e_haymowlaw03_awake) :: L_dz
theorem hE_haymowlaw03_awake : ESound Try.prog (envOf L_haymowlaw03_awake) := env_cons ok_haymowlaw03_awake hE_dz
end Go.Proofs.Ytpmcflidggofkaa
