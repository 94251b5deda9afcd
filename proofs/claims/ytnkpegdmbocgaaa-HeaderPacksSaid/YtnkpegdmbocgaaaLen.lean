/-
  math/bits.Len64 and Len, off the shelf.
-/
import Derived.Test.YtnkpegdmbocgaaaEx14
import Derived.Test.YtnkpegdmbocgaaaLyC
namespace Go.Proofs.Ytnkpegdmbocgaaa
open Go Go.RowKit Go.Shelf
def e_len : Spec := fun _ args => match args with
  | [.val (.int .u64 x)] => some (vi (Lib.bitLen x.toNat), none, [decide (0 ≤ x), decide (x ≤ 18446744073709551615)])
  | _ => none
theorem ok_len64 : SpecOk Try.prog 63 e_len := fun m args v mo bs h hb => by
  unfold e_len at h
  split at h
  · cases h
    simp at hb
    exact calls_int (fun xs w => Try.call63 xs w) fun w => Any.bits_Len64 Try.lays129 _ w hb.1 hb.2
  · cases h
theorem ok_len : SpecOk Try.prog 55 e_len := fun m args v mo bs h hb => by
  unfold e_len at h
  split at h
  · cases h
    simp at hb
    exact calls_int (fun xs w => Try.call55 xs w) fun w => Any.bits_Len Try.lays125 _ w hb.1 hb.2
  · cases h
def L_len : List (FuncId × Spec) := [(63, e_len), (55, e_len)]
theorem hE_len : ESound Try.prog (envOf L_len) := env_cons ok_len64 (env_cons ok_len env_nil)
end Go.Proofs.Ytnkpegdmbocgaaa
