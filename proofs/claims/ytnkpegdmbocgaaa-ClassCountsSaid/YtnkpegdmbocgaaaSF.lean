/-
  Powers of two, as the document reckons them.
-/
import Derived.Test.YtnkpegdmbocgaaaSC
import Derived.Test.YtnkpegdmbocgaaaCL
import Derived.Test.YtnkpegdmbocgaaaDec
namespace Go.Proofs.Ytnkpegdmbocgaaa
open Go Go.RowKit
def topOf (c : Int) : Int := (2 : Int) ^ c.toNat
def e_top : Spec := fun _ args => match args with
  | [.val (.int .i64 c)] => some (vi (topOf c), none, [decide (0 ≤ c), decide (c ≤ 13)])
  | _ => none
theorem top_at : ∀ k : Nat, k ≤ 13 → F_ Try.prog [] Try.f54 [] [] 99 [vi (k : Int)] noMem = some (Fin_.ret (vi (topOf k)) ⟨[], 99⟩ true)
  | 0, _ => by kernel_rfl
  | 1, _ => by kernel_rfl
  | 2, _ => by kernel_rfl
  | 3, _ => by kernel_rfl
  | 4, _ => by kernel_rfl
  | 5, _ => by kernel_rfl
  | 6, _ => by kernel_rfl
  | 7, _ => by kernel_rfl
  | 8, _ => by kernel_rfl
  | 9, _ => by kernel_rfl
  | 10, _ => by kernel_rfl
  | 11, _ => by kernel_rfl
  | 12, _ => by kernel_rfl
  | 13, _ => by kernel_rfl
  | n + 14, h => by omega
theorem ok_top : SpecOk Try.prog 54 e_top := fun m args v mo bs h hb => by
  unfold e_top at h
  split at h
  · rename_i c
    cases h
    simp at hb
    obtain ⟨k, rfl⟩ := Int.eq_ofNat_of_zero_le hb.1
    exact pure_fn (c := bodyOf Try.f54) env_nil mixed (fun xs w => Try.call54 xs w) Try.func54 rfl (top_at k (by omega)) rfl rfl
  · cases h
def L_cd : List (FuncId × Spec) := (54, e_top) :: (L_dec ++ L_class_Bounds)
theorem hE_cd : ESound Try.prog (envOf L_cd) := env_cons ok_top (env_app hE_dec hE_class_Bounds)
end Go.Proofs.Ytnkpegdmbocgaaa
