/-
  Where the shelf's functions lie in this program: tables, written out.
-/
import Derived.Shelf.Lay
import Derived.Shelf.Small.Bits
import Derived.Test.YtanfjgkohhlcoaaProg
namespace Go.Proofs.Ytanfjgkohhlcoaa
open Go Go.Shelf
def Try.lays134_ren : Ren :=
{
  f := fun x =>
    match x with
    | 134 => 85
    | 129 => 87
    | n => n,
  t := fun x =>
    match x with
    | 53 => 22
    | 3 => 3
    | 4 => 4
    | 46 => 107
    | 5 => 5
    | 9 => 9
    | n => n,
  g := fun x => x }
theorem Try.lays134 : Lays.n134 Try.prog Try.lays134_ren :=
{ mixed := by kernel_rfl, f129 := (Try.func87).trans (congrArg some (by kernel_rfl)),
  f134 := (Try.func85).trans (congrArg some (by kernel_rfl)), t3 := Try.underlying3,
  a3 := Try.isAgg3, z3 := Try.sizeOf3, v3 := Try.zeroValue3, t4 := Try.underlying4, a4 := Try.isAgg4, z4 := Try.sizeOf4,
  v4 := Try.zeroValue4, t5 := Try.underlying5, a5 := Try.isAgg5, z5 := Try.sizeOf5, v5 := Try.zeroValue5,
  t9 := Try.underlying9, a9 := Try.isAgg9, z9 := Try.sizeOf9, v9 := Try.zeroValue9, t46 := Try.underlying107,
  a46 := Try.isAgg107, z46 := Try.sizeOf107, v46 := Try.zeroValue107, t53 := Try.underlying22, a53 := Try.isAgg22,
  z53 := Try.sizeOf22, v53 := Try.zeroValue22 }
end Go.Proofs.Ytanfjgkohhlcoaa
