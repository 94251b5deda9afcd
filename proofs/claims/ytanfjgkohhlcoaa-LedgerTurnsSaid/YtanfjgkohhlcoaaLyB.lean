/-
  Where the shelf's functions lie in this program: tables, written out.
-/
import Derived.Shelf.Lay
import Derived.Shelf.Bits.Mul64
import Derived.Shelf.Spec.BitsCarry
import Derived.Test.YtanfjgkohhlcoaaProg
namespace Go.Proofs.Ytanfjgkohhlcoaa
open Go Go.Shelf
def Try.lays264_ren : Ren :=
{
  f := fun x =>
    match x with
    | 264 => 69
    | n => n,
  t := fun x =>
    match x with
    | 53 => 22
    | 46 => 107
    | n => n,
  g := fun x => x }
theorem Try.lays264 : Lays.n264 Try.prog Try.lays264_ren :=
{ mixed := by kernel_rfl, f264 := (Try.func69).trans (congrArg some (by kernel_rfl)),
  t46 := Try.underlying107, a46 := Try.isAgg107, z46 := Try.sizeOf107, v46 := Try.zeroValue107, t53 := Try.underlying22,
  a53 := Try.isAgg22, z53 := Try.sizeOf22, v53 := Try.zeroValue22 }
def Try.lays25k7_ren : Ren :=
{
  f := fun x =>
    match x with
    | 25 => 70
    | n => n,
  t := fun x =>
    match x with
    | 22 => 22
    | n => n,
  g := fun x => x }
theorem Try.lays25k7 : Lays7.n25 Try.prog Try.lays25k7_ren :=
{ mixed := by kernel_rfl, f25 := (Try.func70).trans (congrArg some (by kernel_rfl)),
  t22 := Try.underlying22, a22 := Try.isAgg22, z22 := Try.sizeOf22, v22 := Try.zeroValue22,
  i22 := by kernel_rfl }
def Try.lays26k7_ren : Ren :=
{
  f := fun x =>
    match x with
    | 26 => 75
    | n => n,
  t := fun x =>
    match x with
    | 22 => 22
    | n => n,
  g := fun x => x }
theorem Try.lays26k7 : Lays7.n26 Try.prog Try.lays26k7_ren :=
{ mixed := by kernel_rfl, f26 := (Try.func75).trans (congrArg some (by kernel_rfl)),
  t22 := Try.underlying22, a22 := Try.isAgg22, z22 := Try.sizeOf22, v22 := Try.zeroValue22,
  i22 := by kernel_rfl }
end Go.Proofs.Ytanfjgkohhlcoaa
