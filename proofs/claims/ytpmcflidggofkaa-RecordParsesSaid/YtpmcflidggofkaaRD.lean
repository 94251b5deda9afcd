/-
  Records: the page's example, run in place.
-/
import Derived.Test.YtpmcflidggofkaaRC
namespace Go.Proofs.Ytpmcflidggofkaa
open Go Go.RowKit
theorem aw34 : F_ Try.prog ((22, inlP Try.prog ((20, inl Try.prog L_rw Try.f20) :: L_rw) Try.f22) :: (17, inl Try.prog L_rw Try.f17) :: L_rw) Try.f16 [] [] 9999 [] noMem = some (.ret (vb true) ⟨[], 9999⟩ true) := by kernel_rfl
theorem hE_34 : ESound Try.prog (envOf ((22, inlP Try.prog ((20, inl Try.prog L_rw Try.f20) :: L_rw) Try.f22) :: (17, inl Try.prog L_rw Try.f17) :: L_rw)) :=
  env_cons (inlP_ok (env_cons (inl_ok hE_rw mixed (fun xs w => Try.call20 xs w) Try.func20 rfl) hE_rw) mixed (fun xs w => Try.call22 xs w) Try.func22 rfl)
    (env_cons (inl_ok hE_rw mixed (fun xs w => Try.call17 xs w) Try.func17 rfl) hE_rw)
def e_aw34 : Spec := fun _ args => match args with
  | [] => some (vb true, none, [])
  | _ => none
theorem ok_aw34 : SpecOk Try.prog 16 e_aw34 := fun m args v mo bs h hb => by
  unfold e_aw34 at h
  split at h
  · cases h
    exact pure_fn (c := bodyOf Try.f16) hE_34 mixed (fun xs w => Try.call16 xs w) Try.func16 rfl aw34 rfl rfl
  · cases h
def L_a34 : List (FuncId × Spec) := (16, e_aw34) :: L_rw
theorem hE_a34 : ESound Try.prog (envOf L_a34) := env_cons ok_aw34 hE_rw
end Go.Proofs.Ytpmcflidggofkaa
