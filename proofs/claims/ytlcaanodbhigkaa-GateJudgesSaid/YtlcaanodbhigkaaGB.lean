/-
  What functions hand back, reckoned from their text.
-/
import Derived.Test.YtlcaanodbhigkaaProg
import Derived.Test.YtlcaanodbhigkaaGA
namespace Go.Proofs.Ytlcaanodbhigkaa
open Go Go.RowKit
def s_haymowlaw28_awake : AV := AV.val (Value.bool true)
theorem t_haymowlaw28_awake : F_ Try.prog L_haymowlaw28_same Try.f18 [] [] 99 [] noMem = some (.ret (s_haymowlaw28_awake) { bl := [], nx := 99 } true) := by kernel_rfl
def e_haymowlaw28_awake : Spec := fun _ args => match args with
  | [] => some (s_haymowlaw28_awake , none, [])
  | _ => none
theorem ok_haymowlaw28_awake : SpecOk Try.prog 18 e_haymowlaw28_awake := fun m args v mo bs h hb => by
  unfold e_haymowlaw28_awake at h
  split at h
  · cases h
    exact pure_fn (c := bodyOf Try.f18) hE_haymowlaw28_same mixed (fun xs w => Try.call18 xs w) Try.func18 rfl (t_haymowlaw28_awake) rfl rfl
  · cases h
def L_haymowlaw28_awake : List (FuncId × Spec) := (18, e_haymowlaw28_awake) :: L_haymowlaw28_same
theorem hE_haymowlaw28_awake : ESound Try.prog (envOf L_haymowlaw28_awake) := env_cons ok_haymowlaw28_awake hE_haymowlaw28_same
end Go.Proofs.Ytlcaanodbhigkaa
