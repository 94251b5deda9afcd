/-
  Where the shelf's functions lie in this program: tables, written out.
-/
import Derived.Shelf.Lay
import Derived.Shelf.Strconv.Itoa0
import Derived.Test.YtnkpegdmbocgaaaDoorProg
namespace Go.Proofs.YtnkpegdmbocgaaaDoor
open Go Go.Shelf
def Tryd.lays129_ren : Ren :=
{
  f := fun x =>
    match x with
    | 129 => 26
    | n => n,
  t := fun x =>
    match x with
    | 53 => 22
    | 3 => 3
    | 4 => 4
    | 46 => 41
    | 5 => 5
    | 9 => 9
    | n => n,
  g := fun x => x }
theorem Tryd.lays129 : Lays.n129 Tryd.prog Tryd.lays129_ren :=
{ mixed := by kernel_rfl, f129 := (Tryd.func26).trans (congrArg some (by kernel_rfl)),
  t3 := Tryd.underlying3, a3 := Tryd.isAgg3, z3 := Tryd.sizeOf3, v3 := Tryd.zeroValue3, t4 := Tryd.underlying4,
  a4 := Tryd.isAgg4, z4 := Tryd.sizeOf4, v4 := Tryd.zeroValue4, t5 := Tryd.underlying5, a5 := Tryd.isAgg5,
  z5 := Tryd.sizeOf5, v5 := Tryd.zeroValue5, t9 := Tryd.underlying9, a9 := Tryd.isAgg9, z9 := Tryd.sizeOf9,
  v9 := Tryd.zeroValue9, t46 := Tryd.underlying41, a46 := Tryd.isAgg41, z46 := Tryd.sizeOf41, v46 := Tryd.zeroValue41,
  t53 := Tryd.underlying22, a53 := Tryd.isAgg22, z53 := Tryd.sizeOf22, v53 := Tryd.zeroValue22 }
end Go.Proofs.YtnkpegdmbocgaaaDoor
