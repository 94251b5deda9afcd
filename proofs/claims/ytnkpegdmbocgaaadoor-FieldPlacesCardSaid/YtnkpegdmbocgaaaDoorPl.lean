/-
  math/bits.Len64, off the shelf.
-/
import Derived.Test.YtnkpegdmbocgaaaDoorEx14
import Derived.Test.YtnkpegdmbocgaaaDoorLyF
namespace Go.Proofs.YtnkpegdmbocgaaaDoor
open Go Go.RowKit Go.Shelf
def e_len : Spec := fun _ args => match args with
  | [.val (.int .u64 x)] => some (vi (Lib.bitLen x.toNat), none, [decide (0 ≤ x), decide (x ≤ 18446744073709551615)])
  | _ => none
theorem ok_len64 : SpecOk Tryd.prog 26 e_len := fun m args v mo bs h hb => by
  unfold e_len at h
  split at h
  · cases h
    simp at hb
    exact calls_int (fun xs w => Tryd.call26 xs w) fun w => Any.bits_Len64 Tryd.lays129 _ w hb.1 hb.2
  · cases h
def L_len : List (FuncId × Spec) := [(26, e_len)]
theorem hE_len : ESound Tryd.prog (envOf L_len) := env_cons ok_len64 env_nil
theorem mixed : MixedOk Tryd.prog := by unfold MixedOk; kernel_rfl
end Go.Proofs.YtnkpegdmbocgaaaDoor
