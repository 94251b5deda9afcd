/-
  No cell of these rows narrows 'for every input' (looked for: loops, veiled, ifaces, maps, wideKeys, modest, calm, conditions, laid).
  DERIVED. THE GIVEN ROWS OF THIS SEAT. 4 by the template 'for every input the law returns true; each argument reads behind the call as it read before'; 0 by the template 'total and deterministic' (their statements: YtpmcflidggofkaaTotals.lean).
  GIVEN WITH THE SEED: the statements are not yours to turn. If you find one false, say at which input.
  Laid BY PROGRAM, IN A SANDBOX (cutbox-rows.mjs): the forced cells as the released guide's own fill.sh prints them over the translation 01c31e9ad2402c71… (all of the seat's roots in one cut). By AI agents, Wed Nov 11 2026. No macro, syntax, notation, axiom, sorry.
-/
import Derived.Test.YtpmcflidggofkaaChecked
import GoSem.Claim
import GoSem.ClaimJoined
import GoSem.ClaimMapViews
import Derived.JoinedTies
import Derived.KernelRfl
namespace Go.Proofs.Ytpmcflidggofkaa
/- THE CELL 'sum', in the pinned program and in every row, IS THE sha256 OF THE DUMP (.gsa) THAT YtpmcflidggofkaaProg.lean LOADS. Nothing in Lean hashes anything: it is a label: what it is worth is what the hold of that sum in a sandbox is worth. -/
noncomputable def Try.pinned : Pinned := { name := "ytpmcflidggofkaa", sum := "01c31e9ad2402c7186ff6954dad6ef3e988f5c789f47956d070c98f97b9ba2ab", checked := Try.checked }
namespace Rows
def none {H : Type} : Left H := { results := [], args := [] }

/-- 'haymowlaw03.DigitsNumbers': WHATEVER THE INPUT: true; the input reads as it did. -/
def digitsNumbersSpec : ChangeSpec := { name := "digitsNumbers", fn := fun _ => fun
  | [d1, d2] => { results := [.lit (.bool true)], args := [d1, d2] }
  | _ => none }
def digitsNumbersRow : OpenClaim := { program := "ytpmcflidggofkaa", sum := "01c31e9ad2402c7186ff6954dad6ef3e988f5c789f47956d070c98f97b9ba2ab", func := "haymow/haymowlaw03.DigitsNumbers", spec := "digitsNumbers", apart := false }
def DigitsNumbersSaid : Prop := digitsNumbersRow.holds Try.pinned (OpenSpec.ofChange digitsNumbersSpec)

/-- ITS FALSE NEIGHBOUR: 'it returns false'. Refute it at one input. -/
def digitsNumbersWrong : ChangeSpec := { name := "digitsNumbers", fn := fun _ => fun
  | [d1, d2] => { results := [.lit (.bool false)], args := [d1, d2] }
  | _ => none }
def DigitsNumbersWrongFalsely : Prop := digitsNumbersRow.holds Try.pinned (OpenSpec.ofChange digitsNumbersWrong)

/-- 'haymowlaw03.DigitsWords': WHATEVER THE INPUT: true; the input reads as it did. -/
def digitsWordsSpec : ChangeSpec := { name := "digitsWords", fn := fun _ => fun
  | [d1, d2] => { results := [.lit (.bool true)], args := [d1, d2] }
  | _ => none }
def digitsWordsRow : OpenClaim := { program := "ytpmcflidggofkaa", sum := "01c31e9ad2402c7186ff6954dad6ef3e988f5c789f47956d070c98f97b9ba2ab", func := "haymow/haymowlaw03.DigitsWords", spec := "digitsWords", inPlace := ["internal/bytealg.IndexByteString"], apart := false }
def DigitsWordsSaid : Prop := digitsWordsRow.holds Try.pinned (OpenSpec.ofChange digitsWordsSpec)

/-- ITS FALSE NEIGHBOUR: 'it returns false'. Refute it at one input. -/
def digitsWordsWrong : ChangeSpec := { name := "digitsWords", fn := fun _ => fun
  | [d1, d2] => { results := [.lit (.bool false)], args := [d1, d2] }
  | _ => none }
def DigitsWordsWrongFalsely : Prop := digitsWordsRow.holds Try.pinned (OpenSpec.ofChange digitsWordsWrong)

/-- 'haymowlaw34.RecordParses': WHATEVER THE INPUT: true; the input reads as it did. -/
def recordParsesSpec : ChangeSpec := { name := "recordParses", fn := fun _ => fun
  | [d1, d2] => { results := [.lit (.bool true)], args := [d1, d2] }
  | _ => none }
def recordParsesRow : OpenClaim := { program := "ytpmcflidggofkaa", sum := "01c31e9ad2402c7186ff6954dad6ef3e988f5c789f47956d070c98f97b9ba2ab", func := "haymow/haymowlaw34.RecordParses", spec := "recordParses", apart := false }
def RecordParsesSaid : Prop := recordParsesRow.holds Try.pinned (OpenSpec.ofChange recordParsesSpec)

/-- ITS FALSE NEIGHBOUR: 'it returns false'. Refute it at one input. -/
def recordParsesWrong : ChangeSpec := { name := "recordParses", fn := fun _ => fun
  | [d1, d2] => { results := [.lit (.bool false)], args := [d1, d2] }
  | _ => none }
def RecordParsesWrongFalsely : Prop := recordParsesRow.holds Try.pinned (OpenSpec.ofChange recordParsesWrong)

/-- 'haymowlaw34.RecordKinds': WHATEVER THE INPUT: true; the input reads as it did. -/
def recordKindsSpec : ChangeSpec := { name := "recordKinds", fn := fun _ => fun
  | [d1, d2] => { results := [.lit (.bool true)], args := [d1, d2] }
  | _ => none }
def recordKindsRow : OpenClaim := { program := "ytpmcflidggofkaa", sum := "01c31e9ad2402c7186ff6954dad6ef3e988f5c789f47956d070c98f97b9ba2ab", func := "haymow/haymowlaw34.RecordKinds", spec := "recordKinds", apart := false }
def RecordKindsSaid : Prop := recordKindsRow.holds Try.pinned (OpenSpec.ofChange recordKindsSpec)

/-- ITS FALSE NEIGHBOUR: 'it returns false'. Refute it at one input. -/
def recordKindsWrong : ChangeSpec := { name := "recordKinds", fn := fun _ => fun
  | [d1, d2] => { results := [.lit (.bool false)], args := [d1, d2] }
  | _ => none }
def RecordKindsWrongFalsely : Prop := recordKindsRow.holds Try.pinned (OpenSpec.ofChange recordKindsWrong)

/- THE SECOND FORM. 'bulk': how many values and letters a reading holds, each counted each time it is reached (what is shared counts as often as it is met; a slice's spare places count too). A statement '..UptoSaid' is the law's where the arguments, and the package variables that the reading takes, are together of bulk at most 1048576: NARROWER than '..Said'. Prove '..Said' where nothing that the law and all that it calls make is longer than what came in: it says more and counts as full. Else prove '..UptoSaid'. A law counts once. -/
mutual
def uptoBulk {H : Type} : DataW H → Nat
  | .lit (.string bytes) => bytes.length + 1
  | .lit _ => 1
  | .nil => 1
  | .ptr d => uptoBulk d + 1
  | .slice elems spare => uptoBulkAll elems + uptoBulkAll spare + 1
  | .agg parts => uptoBulkAll parts + 1
  | .iface _ d => uptoBulk d + 1
  | .map entries => uptoBulkEntries entries + 1
  | .held _ => 1
def uptoBulkAll {H : Type} : List (DataW H) → Nat
  | [] => 0
  | d :: r => uptoBulk d + uptoBulkAll r
def uptoBulkEntries {H : Type} : List (Lit × DataW H) → Nat
  | [] => 0
  | x :: r => uptoBulkEntry x + uptoBulkEntries r
def uptoBulkEntry {H : Type} : Lit × DataW H → Nat
  | (.string bytes, d) => bytes.length + uptoBulk d + 1
  | (_, d) => uptoBulk d + 1
 end
def uptoSmall : (H : Type) → List (DataW H) → Bool := fun _ ds => decide (uptoBulkAll ds ≤ 1048576)
def OpenSpec.upto (s : _root_.Go.ChangeSpec) : _root_.Go.OpenSpec := { _root_.Go.OpenSpec.ofChange s with cond := some uptoSmall }

/-- 'haymowlaw03.DigitsNumbers', WHERE WHAT IT READS IS OF BULK AT MOST 1048576: true; the input reads as it did. -/
def digitsNumbersUptoRow : OpenClaim := { program := "ytpmcflidggofkaa", sum := "01c31e9ad2402c7186ff6954dad6ef3e988f5c789f47956d070c98f97b9ba2ab", func := "haymow/haymowlaw03.DigitsNumbers", spec := "digitsNumbers", apart := false, narrowed := true }
def DigitsNumbersUptoSaid : Prop := digitsNumbersUptoRow.holds Try.pinned (OpenSpec.upto digitsNumbersSpec)

/-- 'haymowlaw03.DigitsWords', WHERE WHAT IT READS IS OF BULK AT MOST 1048576: true; the input reads as it did. -/
def digitsWordsUptoRow : OpenClaim := { program := "ytpmcflidggofkaa", sum := "01c31e9ad2402c7186ff6954dad6ef3e988f5c789f47956d070c98f97b9ba2ab", func := "haymow/haymowlaw03.DigitsWords", spec := "digitsWords", inPlace := ["internal/bytealg.IndexByteString"], apart := false, narrowed := true }
def DigitsWordsUptoSaid : Prop := digitsWordsUptoRow.holds Try.pinned (OpenSpec.upto digitsWordsSpec)

/-- 'haymowlaw34.RecordParses', WHERE WHAT IT READS IS OF BULK AT MOST 1048576: true; the input reads as it did. -/
def recordParsesUptoRow : OpenClaim := { program := "ytpmcflidggofkaa", sum := "01c31e9ad2402c7186ff6954dad6ef3e988f5c789f47956d070c98f97b9ba2ab", func := "haymow/haymowlaw34.RecordParses", spec := "recordParses", apart := false, narrowed := true }
def RecordParsesUptoSaid : Prop := recordParsesUptoRow.holds Try.pinned (OpenSpec.upto recordParsesSpec)

/-- 'haymowlaw34.RecordKinds', WHERE WHAT IT READS IS OF BULK AT MOST 1048576: true; the input reads as it did. -/
def recordKindsUptoRow : OpenClaim := { program := "ytpmcflidggofkaa", sum := "01c31e9ad2402c7186ff6954dad6ef3e988f5c789f47956d070c98f97b9ba2ab", func := "haymow/haymowlaw34.RecordKinds", spec := "recordKinds", apart := false, narrowed := true }
def RecordKindsUptoSaid : Prop := recordKindsUptoRow.holds Try.pinned (OpenSpec.upto recordKindsSpec)

end Rows
end Go.Proofs.Ytpmcflidggofkaa
