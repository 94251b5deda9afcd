/-
  Where the shelf's functions lie in this program: tables, written out.
-/
import Derived.Shelf.Lay
import Derived.Shelf.Strings.Search1
import Derived.Test.YtpmcflidggofkaaProg
namespace Go.Proofs.Ytpmcflidggofkaa
open Go Go.Shelf
def Try.lays217_ren : Ren :=
{
  f := fun x =>
    match x with
    | 217 => 37
    | 266 => 39
    | n => n,
  t := fun x =>
    match x with
    | 9 => 9
    | 5 => 5
    | 3 => 3
    | n => n,
  g := fun x => x }
theorem Try.lays217 : Lays.n217 Try.prog Try.lays217_ren :=
{ mixed := by kernel_rfl, f217 := (Try.func37).trans (congrArg some (by kernel_rfl)),
  f266 := (Try.func39).trans (congrArg some (by kernel_rfl)), t3 := Try.underlying3,
  a3 := Try.isAgg3, z3 := Try.sizeOf3, v3 := Try.zeroValue3, t5 := Try.underlying5, a5 := Try.isAgg5, z5 := Try.sizeOf5,
  v5 := Try.zeroValue5, t9 := Try.underlying9, a9 := Try.isAgg9, z9 := Try.sizeOf9, v9 := Try.zeroValue9 }
end Go.Proofs.Ytpmcflidggofkaa
