/-
  Where the shelf's functions lie in this program: tables, written out.
-/
import Derived.Shelf.Lay
import Derived.Shelf.Small.Bits
import Derived.Shelf.Strconv.Itoa0
import Derived.Test.YtnkpegdmbocgaaaProg
namespace Go.Proofs.Ytnkpegdmbocgaaa
open Go Go.Shelf
def Try.lays129_ren : Ren :=
{
  f := fun x =>
    match x with
    | 129 => 63
    | n => n,
  t := fun x =>
    match x with
    | 53 => 23
    | 3 => 3
    | 4 => 4
    | 46 => 77
    | 5 => 5
    | 9 => 9
    | n => n,
  g := fun x => x }
theorem Try.lays129 : Lays.n129 Try.prog Try.lays129_ren :=
{ mixed := by kernel_rfl, f129 := (Try.func63).trans (congrArg some (by kernel_rfl)),
  t3 := Try.underlying3, a3 := Try.isAgg3, z3 := Try.sizeOf3, v3 := Try.zeroValue3, t4 := Try.underlying4,
  a4 := Try.isAgg4, z4 := Try.sizeOf4, v4 := Try.zeroValue4, t5 := Try.underlying5, a5 := Try.isAgg5, z5 := Try.sizeOf5,
  v5 := Try.zeroValue5, t9 := Try.underlying9, a9 := Try.isAgg9, z9 := Try.sizeOf9, v9 := Try.zeroValue9,
  t46 := Try.underlying77, a46 := Try.isAgg77, z46 := Try.sizeOf77, v46 := Try.zeroValue77, t53 := Try.underlying23,
  a53 := Try.isAgg23, z53 := Try.sizeOf23, v53 := Try.zeroValue23 }
def Try.lays125_ren : Ren :=
{
  f := fun x =>
    match x with
    | 125 => 55
    | 128 => 62
    | 129 => 63
    | n => n,
  t := fun x =>
    match x with
    | 46 => 77
    | 3 => 3
    | 51 => 85
    | 53 => 23
    | 4 => 4
    | 5 => 5
    | 9 => 9
    | n => n,
  g := fun x => x }
theorem Try.lays125 : Lays.n125 Try.prog Try.lays125_ren :=
{ mixed := by kernel_rfl, f125 := (Try.func55).trans (congrArg some (by kernel_rfl)),
  f128 := (Try.func62).trans (congrArg some (by kernel_rfl)),
  f129 := (Try.func63).trans (congrArg some (by kernel_rfl)), t3 := Try.underlying3,
  a3 := Try.isAgg3, z3 := Try.sizeOf3, v3 := Try.zeroValue3, t4 := Try.underlying4, a4 := Try.isAgg4, z4 := Try.sizeOf4,
  v4 := Try.zeroValue4, t5 := Try.underlying5, a5 := Try.isAgg5, z5 := Try.sizeOf5, v5 := Try.zeroValue5,
  t9 := Try.underlying9, a9 := Try.isAgg9, z9 := Try.sizeOf9, v9 := Try.zeroValue9, t46 := Try.underlying77,
  a46 := Try.isAgg77, z46 := Try.sizeOf77, v46 := Try.zeroValue77, t51 := Try.underlying85, a51 := Try.isAgg85,
  z51 := Try.sizeOf85, v51 := Try.zeroValue85, t53 := Try.underlying23, a53 := Try.isAgg23, z53 := Try.sizeOf23,
  v53 := Try.zeroValue23 }
end Go.Proofs.Ytnkpegdmbocgaaa
