/-
  No cell of these rows narrows 'for every input' (looked for: loops, veiled, ifaces, maps, wideKeys, modest, calm, conditions, laid).
  DERIVED. THE GIVEN ROWS OF THIS SEAT. 9 by the template 'for every input the law returns true; each argument reads behind the call as it read before'; 0 by the template 'total and deterministic' (their statements: YtnkpegdmbocgaaaTotals.lean).
  GIVEN WITH THE SEED: the statements are not yours to turn. If you find one false, say at which input.
  Laid BY PROGRAM, IN A SANDBOX (cutbox-rows.mjs): the forced cells as the released guide's own fill.sh prints them over the translation 7e20dd2bdbbe69fc… (all of the seat's roots in one cut). By AI agents, Wed Nov 11 2026. No macro, syntax, notation, axiom, sorry.
-/
import Derived.Test.YtnkpegdmbocgaaaChecked
import GoSem.Claim
import GoSem.ClaimJoined
import GoSem.ClaimMapViews
import Derived.JoinedTies
import Derived.KernelRfl
namespace Go.Proofs.Ytnkpegdmbocgaaa
/- THE CELL 'sum', in the pinned program and in every row, IS THE sha256 OF THE DUMP (.gsa) THAT YtnkpegdmbocgaaaProg.lean LOADS. Nothing in Lean hashes anything: it is a label: what it is worth is what the hold of that sum in a sandbox is worth. -/
noncomputable def Try.pinned : Pinned := { name := "ytnkpegdmbocgaaa", sum := "7e20dd2bdbbe69fc7e0d9c8b61431b63f9e7f3cc984360cf9596f7485901438b", checked := Try.checked }
namespace Rows
def none {H : Type} : Left H := { results := [], args := [] }

/-- 'haymowlaw12.HeaderMoves': WHATEVER THE INPUT: true; the input reads as it did. -/
def headerMovesSpec : ChangeSpec := { name := "headerMoves", fn := fun _ => fun
  | [d] => { results := [.lit (.bool true)], args := [d] }
  | _ => none }
def headerMovesRow : OpenClaim := { program := "ytnkpegdmbocgaaa", sum := "7e20dd2bdbbe69fc7e0d9c8b61431b63f9e7f3cc984360cf9596f7485901438b", func := "haymow/haymowlaw12.HeaderMoves", spec := "headerMoves", apart := false }
def HeaderMovesSaid : Prop := headerMovesRow.holds Try.pinned (OpenSpec.ofChange headerMovesSpec)

/-- ITS FALSE NEIGHBOUR: 'it returns false'. Refute it at one input. -/
def headerMovesWrong : ChangeSpec := { name := "headerMoves", fn := fun _ => fun
  | [d] => { results := [.lit (.bool false)], args := [d] }
  | _ => none }
def HeaderMovesWrongFalsely : Prop := headerMovesRow.holds Try.pinned (OpenSpec.ofChange headerMovesWrong)

/-- 'haymowlaw12.HeaderPacks': WHATEVER THE INPUT: true; the input reads as it did. -/
def headerPacksSpec : ChangeSpec := { name := "headerPacks", fn := fun _ => fun
  | [d] => { results := [.lit (.bool true)], args := [d] }
  | _ => none }
def headerPacksRow : OpenClaim := { program := "ytnkpegdmbocgaaa", sum := "7e20dd2bdbbe69fc7e0d9c8b61431b63f9e7f3cc984360cf9596f7485901438b", func := "haymow/haymowlaw12.HeaderPacks", spec := "headerPacks", apart := false }
def HeaderPacksSaid : Prop := headerPacksRow.holds Try.pinned (OpenSpec.ofChange headerPacksSpec)

/-- ITS FALSE NEIGHBOUR: 'it returns false'. Refute it at one input. -/
def headerPacksWrong : ChangeSpec := { name := "headerPacks", fn := fun _ => fun
  | [d] => { results := [.lit (.bool false)], args := [d] }
  | _ => none }
def HeaderPacksWrongFalsely : Prop := headerPacksRow.holds Try.pinned (OpenSpec.ofChange headerPacksWrong)

/-- 'haymowlaw12.HeaderReads': WHATEVER THE INPUT: true; the input reads as it did. -/
def headerReadsSpec : ChangeSpec := { name := "headerReads", fn := fun _ => fun
  | [d] => { results := [.lit (.bool true)], args := [d] }
  | _ => none }
def headerReadsRow : OpenClaim := { program := "ytnkpegdmbocgaaa", sum := "7e20dd2bdbbe69fc7e0d9c8b61431b63f9e7f3cc984360cf9596f7485901438b", func := "haymow/haymowlaw12.HeaderReads", spec := "headerReads", apart := false }
def HeaderReadsSaid : Prop := headerReadsRow.holds Try.pinned (OpenSpec.ofChange headerReadsSpec)

/-- ITS FALSE NEIGHBOUR: 'it returns false'. Refute it at one input. -/
def headerReadsWrong : ChangeSpec := { name := "headerReads", fn := fun _ => fun
  | [d] => { results := [.lit (.bool false)], args := [d] }
  | _ => none }
def HeaderReadsWrongFalsely : Prop := headerReadsRow.holds Try.pinned (OpenSpec.ofChange headerReadsWrong)

/-- 'haymowlaw04.ClassSizes': WHATEVER THE INPUT: true; the input reads as it did. -/
def classSizesSpec : ChangeSpec := { name := "classSizes", fn := fun _ => fun
  | [d1, d2] => { results := [.lit (.bool true)], args := [d1, d2] }
  | _ => none }
def classSizesRow : OpenClaim := { program := "ytnkpegdmbocgaaa", sum := "7e20dd2bdbbe69fc7e0d9c8b61431b63f9e7f3cc984360cf9596f7485901438b", func := "haymow/haymowlaw04.ClassSizes", spec := "classSizes", apart := false }
def ClassSizesSaid : Prop := classSizesRow.holds Try.pinned (OpenSpec.ofChange classSizesSpec)

/-- ITS FALSE NEIGHBOUR: 'it returns false'. Refute it at one input. -/
def classSizesWrong : ChangeSpec := { name := "classSizes", fn := fun _ => fun
  | [d1, d2] => { results := [.lit (.bool false)], args := [d1, d2] }
  | _ => none }
def ClassSizesWrongFalsely : Prop := classSizesRow.holds Try.pinned (OpenSpec.ofChange classSizesWrong)

/-- 'haymowlaw04.ClassHolds': WHATEVER THE INPUT: true; the input reads as it did. -/
def classHoldsSpec : ChangeSpec := { name := "classHolds", fn := fun _ => fun
  | [d1, d2] => { results := [.lit (.bool true)], args := [d1, d2] }
  | _ => none }
def classHoldsRow : OpenClaim := { program := "ytnkpegdmbocgaaa", sum := "7e20dd2bdbbe69fc7e0d9c8b61431b63f9e7f3cc984360cf9596f7485901438b", func := "haymow/haymowlaw04.ClassHolds", spec := "classHolds", apart := false }
def ClassHoldsSaid : Prop := classHoldsRow.holds Try.pinned (OpenSpec.ofChange classHoldsSpec)

/-- ITS FALSE NEIGHBOUR: 'it returns false'. Refute it at one input. -/
def classHoldsWrong : ChangeSpec := { name := "classHolds", fn := fun _ => fun
  | [d1, d2] => { results := [.lit (.bool false)], args := [d1, d2] }
  | _ => none }
def ClassHoldsWrongFalsely : Prop := classHoldsRow.holds Try.pinned (OpenSpec.ofChange classHoldsWrong)

/-- 'haymowlaw04.ClassCounts': WHATEVER THE INPUT: true; the input reads as it did. -/
def classCountsSpec : ChangeSpec := { name := "classCounts", fn := fun _ => fun
  | [d1, d2, d3] => { results := [.lit (.bool true)], args := [d1, d2, d3] }
  | _ => none }
def classCountsRow : OpenClaim := { program := "ytnkpegdmbocgaaa", sum := "7e20dd2bdbbe69fc7e0d9c8b61431b63f9e7f3cc984360cf9596f7485901438b", func := "haymow/haymowlaw04.ClassCounts", spec := "classCounts", apart := false }
def ClassCountsSaid : Prop := classCountsRow.holds Try.pinned (OpenSpec.ofChange classCountsSpec)

/-- ITS FALSE NEIGHBOUR: 'it returns false'. Refute it at one input. -/
def classCountsWrong : ChangeSpec := { name := "classCounts", fn := fun _ => fun
  | [d1, d2, d3] => { results := [.lit (.bool false)], args := [d1, d2, d3] }
  | _ => none }
def ClassCountsWrongFalsely : Prop := classCountsRow.holds Try.pinned (OpenSpec.ofChange classCountsWrong)

/-- 'haymowlaw13.ShapeWords': WHATEVER THE INPUT: true; the input reads as it did. -/
def shapeWordsSpec : ChangeSpec := { name := "shapeWords", fn := fun _ => fun
  | [d1, d2, d3] => { results := [.lit (.bool true)], args := [d1, d2, d3] }
  | _ => none }
def shapeWordsRow : OpenClaim := { program := "ytnkpegdmbocgaaa", sum := "7e20dd2bdbbe69fc7e0d9c8b61431b63f9e7f3cc984360cf9596f7485901438b", func := "haymow/haymowlaw13.ShapeWords", spec := "shapeWords", apart := false }
def ShapeWordsSaid : Prop := shapeWordsRow.holds Try.pinned (OpenSpec.ofChange shapeWordsSpec)

/-- ITS FALSE NEIGHBOUR: 'it returns false'. Refute it at one input. -/
def shapeWordsWrong : ChangeSpec := { name := "shapeWords", fn := fun _ => fun
  | [d1, d2, d3] => { results := [.lit (.bool false)], args := [d1, d2, d3] }
  | _ => none }
def ShapeWordsWrongFalsely : Prop := shapeWordsRow.holds Try.pinned (OpenSpec.ofChange shapeWordsWrong)

/-- 'haymowlaw13.ShapeSums': WHATEVER THE INPUT: true; the input reads as it did. -/
def shapeSumsSpec : ChangeSpec := { name := "shapeSums", fn := fun _ => fun
  | [d1, d2] => { results := [.lit (.bool true)], args := [d1, d2] }
  | _ => none }
def shapeSumsRow : OpenClaim := { program := "ytnkpegdmbocgaaa", sum := "7e20dd2bdbbe69fc7e0d9c8b61431b63f9e7f3cc984360cf9596f7485901438b", func := "haymow/haymowlaw13.ShapeSums", spec := "shapeSums", apart := false }
def ShapeSumsSaid : Prop := shapeSumsRow.holds Try.pinned (OpenSpec.ofChange shapeSumsSpec)

/-- ITS FALSE NEIGHBOUR: 'it returns false'. Refute it at one input. -/
def shapeSumsWrong : ChangeSpec := { name := "shapeSums", fn := fun _ => fun
  | [d1, d2] => { results := [.lit (.bool false)], args := [d1, d2] }
  | _ => none }
def ShapeSumsWrongFalsely : Prop := shapeSumsRow.holds Try.pinned (OpenSpec.ofChange shapeSumsWrong)

/-- 'haymowlaw13.ShapeCharges': WHATEVER THE INPUT: true; the input reads as it did. -/
def shapeChargesSpec : ChangeSpec := { name := "shapeCharges", fn := fun _ => fun
  | [d1, d2, d3] => { results := [.lit (.bool true)], args := [d1, d2, d3] }
  | _ => none }
def shapeChargesRow : OpenClaim := { program := "ytnkpegdmbocgaaa", sum := "7e20dd2bdbbe69fc7e0d9c8b61431b63f9e7f3cc984360cf9596f7485901438b", func := "haymow/haymowlaw13.ShapeCharges", spec := "shapeCharges", apart := false }
def ShapeChargesSaid : Prop := shapeChargesRow.holds Try.pinned (OpenSpec.ofChange shapeChargesSpec)

/-- ITS FALSE NEIGHBOUR: 'it returns false'. Refute it at one input. -/
def shapeChargesWrong : ChangeSpec := { name := "shapeCharges", fn := fun _ => fun
  | [d1, d2, d3] => { results := [.lit (.bool false)], args := [d1, d2, d3] }
  | _ => none }
def ShapeChargesWrongFalsely : Prop := shapeChargesRow.holds Try.pinned (OpenSpec.ofChange shapeChargesWrong)

/- THE SECOND FORM. 'bulk': how many values and letters a reading holds, each counted each time it is reached (what is shared counts as often as it is met; a slice's spare places count too). A statement '..UptoSaid' is the law's where the arguments, and the package variables that the reading takes, are together of bulk at most 1048576: NARROWER than '..Said'. Prove '..Said' where nothing that the law and all that it calls make is longer than what came in: it says more and counts as full. Else prove '..UptoSaid'. A law counts once. -/
mutual
def uptoBulk {H : Type} : DataW H → Nat
  | .lit (.string bytes) => bytes.length + 1
  | .lit _ => 1
  | .nil => 1
  | .ptr d => uptoBulk d + 1
  | .slice elems spare => uptoBulkAll elems + uptoBulkAll spare + 1
  | .agg parts => uptoBulkAll parts + 1
  | .iface _ d => uptoBulk d + 1
  | .map entries => uptoBulkEntries entries + 1
  | .held _ => 1
def uptoBulkAll {H : Type} : List (DataW H) → Nat
  | [] => 0
  | d :: r => uptoBulk d + uptoBulkAll r
def uptoBulkEntries {H : Type} : List (Lit × DataW H) → Nat
  | [] => 0
  | x :: r => uptoBulkEntry x + uptoBulkEntries r
def uptoBulkEntry {H : Type} : Lit × DataW H → Nat
  | (.string bytes, d) => bytes.length + uptoBulk d + 1
  | (_, d) => uptoBulk d + 1
 end
def uptoSmall : (H : Type) → List (DataW H) → Bool := fun _ ds => decide (uptoBulkAll ds ≤ 1048576)
def OpenSpec.upto (s : _root_.Go.ChangeSpec) : _root_.Go.OpenSpec := { _root_.Go.OpenSpec.ofChange s with cond := some uptoSmall }

/-- 'haymowlaw12.HeaderMoves', WHERE WHAT IT READS IS OF BULK AT MOST 1048576: true; the input reads as it did. -/
def headerMovesUptoRow : OpenClaim := { program := "ytnkpegdmbocgaaa", sum := "7e20dd2bdbbe69fc7e0d9c8b61431b63f9e7f3cc984360cf9596f7485901438b", func := "haymow/haymowlaw12.HeaderMoves", spec := "headerMoves", apart := false, narrowed := true }
def HeaderMovesUptoSaid : Prop := headerMovesUptoRow.holds Try.pinned (OpenSpec.upto headerMovesSpec)

/-- 'haymowlaw12.HeaderPacks', WHERE WHAT IT READS IS OF BULK AT MOST 1048576: true; the input reads as it did. -/
def headerPacksUptoRow : OpenClaim := { program := "ytnkpegdmbocgaaa", sum := "7e20dd2bdbbe69fc7e0d9c8b61431b63f9e7f3cc984360cf9596f7485901438b", func := "haymow/haymowlaw12.HeaderPacks", spec := "headerPacks", apart := false, narrowed := true }
def HeaderPacksUptoSaid : Prop := headerPacksUptoRow.holds Try.pinned (OpenSpec.upto headerPacksSpec)

/-- 'haymowlaw12.HeaderReads', WHERE WHAT IT READS IS OF BULK AT MOST 1048576: true; the input reads as it did. -/
def headerReadsUptoRow : OpenClaim := { program := "ytnkpegdmbocgaaa", sum := "7e20dd2bdbbe69fc7e0d9c8b61431b63f9e7f3cc984360cf9596f7485901438b", func := "haymow/haymowlaw12.HeaderReads", spec := "headerReads", apart := false, narrowed := true }
def HeaderReadsUptoSaid : Prop := headerReadsUptoRow.holds Try.pinned (OpenSpec.upto headerReadsSpec)

/-- 'haymowlaw04.ClassSizes', WHERE WHAT IT READS IS OF BULK AT MOST 1048576: true; the input reads as it did. -/
def classSizesUptoRow : OpenClaim := { program := "ytnkpegdmbocgaaa", sum := "7e20dd2bdbbe69fc7e0d9c8b61431b63f9e7f3cc984360cf9596f7485901438b", func := "haymow/haymowlaw04.ClassSizes", spec := "classSizes", apart := false, narrowed := true }
def ClassSizesUptoSaid : Prop := classSizesUptoRow.holds Try.pinned (OpenSpec.upto classSizesSpec)

/-- 'haymowlaw04.ClassHolds', WHERE WHAT IT READS IS OF BULK AT MOST 1048576: true; the input reads as it did. -/
def classHoldsUptoRow : OpenClaim := { program := "ytnkpegdmbocgaaa", sum := "7e20dd2bdbbe69fc7e0d9c8b61431b63f9e7f3cc984360cf9596f7485901438b", func := "haymow/haymowlaw04.ClassHolds", spec := "classHolds", apart := false, narrowed := true }
def ClassHoldsUptoSaid : Prop := classHoldsUptoRow.holds Try.pinned (OpenSpec.upto classHoldsSpec)

/-- 'haymowlaw04.ClassCounts', WHERE WHAT IT READS IS OF BULK AT MOST 1048576: true; the input reads as it did. -/
def classCountsUptoRow : OpenClaim := { program := "ytnkpegdmbocgaaa", sum := "7e20dd2bdbbe69fc7e0d9c8b61431b63f9e7f3cc984360cf9596f7485901438b", func := "haymow/haymowlaw04.ClassCounts", spec := "classCounts", apart := false, narrowed := true }
def ClassCountsUptoSaid : Prop := classCountsUptoRow.holds Try.pinned (OpenSpec.upto classCountsSpec)

/-- 'haymowlaw13.ShapeWords', WHERE WHAT IT READS IS OF BULK AT MOST 1048576: true; the input reads as it did. -/
def shapeWordsUptoRow : OpenClaim := { program := "ytnkpegdmbocgaaa", sum := "7e20dd2bdbbe69fc7e0d9c8b61431b63f9e7f3cc984360cf9596f7485901438b", func := "haymow/haymowlaw13.ShapeWords", spec := "shapeWords", apart := false, narrowed := true }
def ShapeWordsUptoSaid : Prop := shapeWordsUptoRow.holds Try.pinned (OpenSpec.upto shapeWordsSpec)

/-- 'haymowlaw13.ShapeSums', WHERE WHAT IT READS IS OF BULK AT MOST 1048576: true; the input reads as it did. -/
def shapeSumsUptoRow : OpenClaim := { program := "ytnkpegdmbocgaaa", sum := "7e20dd2bdbbe69fc7e0d9c8b61431b63f9e7f3cc984360cf9596f7485901438b", func := "haymow/haymowlaw13.ShapeSums", spec := "shapeSums", apart := false, narrowed := true }
def ShapeSumsUptoSaid : Prop := shapeSumsUptoRow.holds Try.pinned (OpenSpec.upto shapeSumsSpec)

/-- 'haymowlaw13.ShapeCharges', WHERE WHAT IT READS IS OF BULK AT MOST 1048576: true; the input reads as it did. -/
def shapeChargesUptoRow : OpenClaim := { program := "ytnkpegdmbocgaaa", sum := "7e20dd2bdbbe69fc7e0d9c8b61431b63f9e7f3cc984360cf9596f7485901438b", func := "haymow/haymowlaw13.ShapeCharges", spec := "shapeCharges", apart := false, narrowed := true }
def ShapeChargesUptoSaid : Prop := shapeChargesUptoRow.holds Try.pinned (OpenSpec.upto shapeChargesSpec)

end Rows
end Go.Proofs.Ytnkpegdmbocgaaa
