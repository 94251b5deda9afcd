/-
  No cell of these rows narrows 'for every input' (looked for: loops, veiled, ifaces, maps, wideKeys, modest, calm, conditions, laid).
  DERIVED. THE GIVEN ROWS OF THIS SEAT. 12 by the template 'for every input the law returns true; each argument reads behind the call as it read before'; 0 by the template 'total and deterministic' (their statements: YtanfjgkohhlcoaaTotals.lean).
  GIVEN WITH THE SEED: the statements are not yours to turn. If you find one false, say at which input.
  Laid BY PROGRAM, IN A SANDBOX (cutbox-rows.mjs): the forced cells as the released guide's own fill.sh prints them over the translation 8980854c5abbc1ef… (all of the seat's roots in one cut). By AI agents, Wed Nov 11 2026. No macro, syntax, notation, axiom, sorry.
-/
import Derived.Test.YtanfjgkohhlcoaaChecked
import GoSem.Claim
import GoSem.ClaimJoined
import GoSem.ClaimMapViews
import Derived.JoinedTies
import Derived.KernelRfl
namespace Go.Proofs.Ytanfjgkohhlcoaa
/- THE CELL 'sum', in the pinned program and in every row, IS THE sha256 OF THE DUMP (.gsa) THAT YtanfjgkohhlcoaaProg.lean LOADS. Nothing in Lean hashes anything: it is a label: what it is worth is what the hold of that sum in a sandbox is worth. -/
noncomputable def Try.pinned : Pinned := { name := "ytanfjgkohhlcoaa", sum := "8980854c5abbc1efc62d0e19c686e99a5a7f92778ef64bae9c7e1fdaff10b446", checked := Try.checked }
namespace Rows
def none {H : Type} : Left H := { results := [], args := [] }

/-- 'haymowlaw01.WideTimes': WHATEVER THE INPUT: true; the input reads as it did. -/
def wideTimesSpec : ChangeSpec := { name := "wideTimes", fn := fun _ => fun
  | [d1, d2] => { results := [.lit (.bool true)], args := [d1, d2] }
  | _ => none }
def wideTimesRow : OpenClaim := { program := "ytanfjgkohhlcoaa", sum := "8980854c5abbc1efc62d0e19c686e99a5a7f92778ef64bae9c7e1fdaff10b446", func := "haymow/haymowlaw01.WideTimes", spec := "wideTimes", inPlace := ["math/bits.Add64"], named := ["math/bits.divideError", "math/bits.overflowError"], apart := false }
def WideTimesSaid : Prop := wideTimesRow.holds Try.pinned (OpenSpec.ofChange wideTimesSpec)

/-- ITS FALSE NEIGHBOUR: 'it returns false'. Refute it at one input. -/
def wideTimesWrong : ChangeSpec := { name := "wideTimes", fn := fun _ => fun
  | [d1, d2] => { results := [.lit (.bool false)], args := [d1, d2] }
  | _ => none }
def WideTimesWrongFalsely : Prop := wideTimesRow.holds Try.pinned (OpenSpec.ofChange wideTimesWrong)

/-- 'haymowlaw01.WideLists': WHATEVER THE INPUT: true; the input reads as it did. -/
def wideListsSpec : ChangeSpec := { name := "wideLists", fn := fun _ => fun
  | [d1, d2] => { results := [.lit (.bool true)], args := [d1, d2] }
  | _ => none }
def wideListsRow : OpenClaim := { program := "ytanfjgkohhlcoaa", sum := "8980854c5abbc1efc62d0e19c686e99a5a7f92778ef64bae9c7e1fdaff10b446", func := "haymow/haymowlaw01.WideLists", spec := "wideLists", inPlace := ["math/bits.Add64"], named := ["math/bits.divideError", "math/bits.overflowError"], apart := false }
def WideListsSaid : Prop := wideListsRow.holds Try.pinned (OpenSpec.ofChange wideListsSpec)

/-- ITS FALSE NEIGHBOUR: 'it returns false'. Refute it at one input. -/
def wideListsWrong : ChangeSpec := { name := "wideLists", fn := fun _ => fun
  | [d1, d2] => { results := [.lit (.bool false)], args := [d1, d2] }
  | _ => none }
def WideListsWrongFalsely : Prop := wideListsRow.holds Try.pinned (OpenSpec.ofChange wideListsWrong)

/-- 'haymowlaw01.WideTexts': WHATEVER THE INPUT: true; the input reads as it did. -/
def wideTextsSpec : ChangeSpec := { name := "wideTexts", fn := fun _ => fun
  | [d1, d2] => { results := [.lit (.bool true)], args := [d1, d2] }
  | _ => none }
def wideTextsRow : OpenClaim := { program := "ytanfjgkohhlcoaa", sum := "8980854c5abbc1efc62d0e19c686e99a5a7f92778ef64bae9c7e1fdaff10b446", func := "haymow/haymowlaw01.WideTexts", spec := "wideTexts", inPlace := ["math/bits.Add64"], named := ["math/bits.divideError", "math/bits.overflowError"], apart := false }
def WideTextsSaid : Prop := wideTextsRow.holds Try.pinned (OpenSpec.ofChange wideTextsSpec)

/-- ITS FALSE NEIGHBOUR: 'it returns false'. Refute it at one input. -/
def wideTextsWrong : ChangeSpec := { name := "wideTexts", fn := fun _ => fun
  | [d1, d2] => { results := [.lit (.bool false)], args := [d1, d2] }
  | _ => none }
def WideTextsWrongFalsely : Prop := wideTextsRow.holds Try.pinned (OpenSpec.ofChange wideTextsWrong)

/-- 'haymowlaw01.WideSums': WHATEVER THE INPUT: true; the input reads as it did. -/
def wideSumsSpec : ChangeSpec := { name := "wideSums", fn := fun _ => fun
  | [d1, d2] => { results := [.lit (.bool true)], args := [d1, d2] }
  | _ => none }
def wideSumsRow : OpenClaim := { program := "ytanfjgkohhlcoaa", sum := "8980854c5abbc1efc62d0e19c686e99a5a7f92778ef64bae9c7e1fdaff10b446", func := "haymow/haymowlaw01.WideSums", spec := "wideSums", inPlace := ["math/bits.Add64", "math/bits.Sub64"], named := ["math/bits.divideError", "math/bits.overflowError"], apart := false }
def WideSumsSaid : Prop := wideSumsRow.holds Try.pinned (OpenSpec.ofChange wideSumsSpec)

/-- ITS FALSE NEIGHBOUR: 'it returns false'. Refute it at one input. -/
def wideSumsWrong : ChangeSpec := { name := "wideSums", fn := fun _ => fun
  | [d1, d2] => { results := [.lit (.bool false)], args := [d1, d2] }
  | _ => none }
def WideSumsWrongFalsely : Prop := wideSumsRow.holds Try.pinned (OpenSpec.ofChange wideSumsWrong)

/-- 'haymowlaw01.WideBack': WHATEVER THE INPUT: true; the input reads as it did. -/
def wideBackSpec : ChangeSpec := { name := "wideBack", fn := fun _ => fun
  | [d1, d2, d3] => { results := [.lit (.bool true)], args := [d1, d2, d3] }
  | _ => none }
def wideBackRow : OpenClaim := { program := "ytanfjgkohhlcoaa", sum := "8980854c5abbc1efc62d0e19c686e99a5a7f92778ef64bae9c7e1fdaff10b446", func := "haymow/haymowlaw01.WideBack", spec := "wideBack", inPlace := ["math/bits.Add64", "math/bits.Sub64"], named := ["math/bits.divideError", "math/bits.overflowError"], apart := false }
def WideBackSaid : Prop := wideBackRow.holds Try.pinned (OpenSpec.ofChange wideBackSpec)

/-- ITS FALSE NEIGHBOUR: 'it returns false'. Refute it at one input. -/
def wideBackWrong : ChangeSpec := { name := "wideBack", fn := fun _ => fun
  | [d1, d2, d3] => { results := [.lit (.bool false)], args := [d1, d2, d3] }
  | _ => none }
def WideBackWrongFalsely : Prop := wideBackRow.holds Try.pinned (OpenSpec.ofChange wideBackWrong)

/-- 'haymowlaw25.CostPays': WHATEVER THE INPUT: true; the input reads as it did. -/
def costPaysSpec : ChangeSpec := { name := "costPays", fn := fun _ => fun
  | [d] => { results := [.lit (.bool true)], args := [d] }
  | _ => none }
def costPaysRow : OpenClaim := { program := "ytanfjgkohhlcoaa", sum := "8980854c5abbc1efc62d0e19c686e99a5a7f92778ef64bae9c7e1fdaff10b446", func := "haymow/haymowlaw25.CostPays", spec := "costPays", inPlace := ["math/bits.Add64"], apart := false }
def CostPaysSaid : Prop := costPaysRow.holds Try.pinned (OpenSpec.ofChange costPaysSpec)

/-- ITS FALSE NEIGHBOUR: 'it returns false'. Refute it at one input. -/
def costPaysWrong : ChangeSpec := { name := "costPays", fn := fun _ => fun
  | [d] => { results := [.lit (.bool false)], args := [d] }
  | _ => none }
def CostPaysWrongFalsely : Prop := costPaysRow.holds Try.pinned (OpenSpec.ofChange costPaysWrong)

/-- 'haymowlaw25.CostSums': WHATEVER THE INPUT: true; the input reads as it did. -/
def costSumsSpec : ChangeSpec := { name := "costSums", fn := fun _ => fun
  | [d1, d2, d3] => { results := [.lit (.bool true)], args := [d1, d2, d3] }
  | _ => none }
def costSumsRow : OpenClaim := { program := "ytanfjgkohhlcoaa", sum := "8980854c5abbc1efc62d0e19c686e99a5a7f92778ef64bae9c7e1fdaff10b446", func := "haymow/haymowlaw25.CostSums", spec := "costSums", inPlace := ["math/bits.Add64"], apart := false }
def CostSumsSaid : Prop := costSumsRow.holds Try.pinned (OpenSpec.ofChange costSumsSpec)

/-- ITS FALSE NEIGHBOUR: 'it returns false'. Refute it at one input. -/
def costSumsWrong : ChangeSpec := { name := "costSums", fn := fun _ => fun
  | [d1, d2, d3] => { results := [.lit (.bool false)], args := [d1, d2, d3] }
  | _ => none }
def CostSumsWrongFalsely : Prop := costSumsRow.holds Try.pinned (OpenSpec.ofChange costSumsWrong)

/-- 'haymowlaw25.CostRises': WHATEVER THE INPUT: true; the input reads as it did. -/
def costRisesSpec : ChangeSpec := { name := "costRises", fn := fun _ => fun
  | [d1, d2, d3] => { results := [.lit (.bool true)], args := [d1, d2, d3] }
  | _ => none }
def costRisesRow : OpenClaim := { program := "ytanfjgkohhlcoaa", sum := "8980854c5abbc1efc62d0e19c686e99a5a7f92778ef64bae9c7e1fdaff10b446", func := "haymow/haymowlaw25.CostRises", spec := "costRises", inPlace := ["math/bits.Add64"], apart := false }
def CostRisesSaid : Prop := costRisesRow.holds Try.pinned (OpenSpec.ofChange costRisesSpec)

/-- ITS FALSE NEIGHBOUR: 'it returns false'. Refute it at one input. -/
def costRisesWrong : ChangeSpec := { name := "costRises", fn := fun _ => fun
  | [d1, d2, d3] => { results := [.lit (.bool false)], args := [d1, d2, d3] }
  | _ => none }
def CostRisesWrongFalsely : Prop := costRisesRow.holds Try.pinned (OpenSpec.ofChange costRisesWrong)

/-- 'haymowlaw27.LedgerTurns': WHATEVER THE INPUT: true; the input reads as it did. -/
def ledgerTurnsSpec : ChangeSpec := { name := "ledgerTurns", fn := fun _ => fun
  | [d1, d2] => { results := [.lit (.bool true)], args := [d1, d2] }
  | _ => none }
def ledgerTurnsRow : OpenClaim := { program := "ytanfjgkohhlcoaa", sum := "8980854c5abbc1efc62d0e19c686e99a5a7f92778ef64bae9c7e1fdaff10b446", func := "haymow/haymowlaw27.LedgerTurns", spec := "ledgerTurns", inPlace := ["math/bits.Add64", "math/bits.Sub64"], named := ["math/bits.divideError", "math/bits.overflowError"], apart := false }
def LedgerTurnsSaid : Prop := ledgerTurnsRow.holds Try.pinned (OpenSpec.ofChange ledgerTurnsSpec)

/-- ITS FALSE NEIGHBOUR: 'it returns false'. Refute it at one input. -/
def ledgerTurnsWrong : ChangeSpec := { name := "ledgerTurns", fn := fun _ => fun
  | [d1, d2] => { results := [.lit (.bool false)], args := [d1, d2] }
  | _ => none }
def LedgerTurnsWrongFalsely : Prop := ledgerTurnsRow.holds Try.pinned (OpenSpec.ofChange ledgerTurnsWrong)

/-- 'haymowlaw27.LedgerBooks': WHATEVER THE INPUT: true; the input reads as it did. -/
def ledgerBooksSpec : ChangeSpec := { name := "ledgerBooks", fn := fun _ => fun
  | [d] => { results := [.lit (.bool true)], args := [d] }
  | _ => none }
def ledgerBooksRow : OpenClaim := { program := "ytanfjgkohhlcoaa", sum := "8980854c5abbc1efc62d0e19c686e99a5a7f92778ef64bae9c7e1fdaff10b446", func := "haymow/haymowlaw27.LedgerBooks", spec := "ledgerBooks", inPlace := ["math/bits.Add64", "math/bits.Sub64"], named := ["math/bits.divideError", "math/bits.overflowError"], apart := false }
def LedgerBooksSaid : Prop := ledgerBooksRow.holds Try.pinned (OpenSpec.ofChange ledgerBooksSpec)

/-- ITS FALSE NEIGHBOUR: 'it returns false'. Refute it at one input. -/
def ledgerBooksWrong : ChangeSpec := { name := "ledgerBooks", fn := fun _ => fun
  | [d] => { results := [.lit (.bool false)], args := [d] }
  | _ => none }
def LedgerBooksWrongFalsely : Prop := ledgerBooksRow.holds Try.pinned (OpenSpec.ofChange ledgerBooksWrong)

/-- 'haymowlaw07.MeterPlays': WHATEVER THE INPUT: true; the input reads as it did. -/
def meterPlaysSpec : ChangeSpec := { name := "meterPlays", fn := fun _ => fun
  | [d1, d2] => { results := [.lit (.bool true)], args := [d1, d2] }
  | _ => none }
def meterPlaysRow : OpenClaim := { program := "ytanfjgkohhlcoaa", sum := "8980854c5abbc1efc62d0e19c686e99a5a7f92778ef64bae9c7e1fdaff10b446", func := "haymow/haymowlaw07.MeterPlays", spec := "meterPlays", inPlace := ["math/bits.Add64", "math/bits.Sub64"], apart := false }
def MeterPlaysSaid : Prop := meterPlaysRow.holds Try.pinned (OpenSpec.ofChange meterPlaysSpec)

/-- ITS FALSE NEIGHBOUR: 'it returns false'. Refute it at one input. -/
def meterPlaysWrong : ChangeSpec := { name := "meterPlays", fn := fun _ => fun
  | [d1, d2] => { results := [.lit (.bool false)], args := [d1, d2] }
  | _ => none }
def MeterPlaysWrongFalsely : Prop := meterPlaysRow.holds Try.pinned (OpenSpec.ofChange meterPlaysWrong)

/-- 'haymowlaw07.MeterRises': WHATEVER THE INPUT: true; the input reads as it did. -/
def meterRisesSpec : ChangeSpec := { name := "meterRises", fn := fun _ => fun
  | [d] => { results := [.lit (.bool true)], args := [d] }
  | _ => none }
def meterRisesRow : OpenClaim := { program := "ytanfjgkohhlcoaa", sum := "8980854c5abbc1efc62d0e19c686e99a5a7f92778ef64bae9c7e1fdaff10b446", func := "haymow/haymowlaw07.MeterRises", spec := "meterRises", inPlace := ["math/bits.Add64", "math/bits.Sub64"], apart := false }
def MeterRisesSaid : Prop := meterRisesRow.holds Try.pinned (OpenSpec.ofChange meterRisesSpec)

/-- ITS FALSE NEIGHBOUR: 'it returns false'. Refute it at one input. -/
def meterRisesWrong : ChangeSpec := { name := "meterRises", fn := fun _ => fun
  | [d] => { results := [.lit (.bool false)], args := [d] }
  | _ => none }
def MeterRisesWrongFalsely : Prop := meterRisesRow.holds Try.pinned (OpenSpec.ofChange meterRisesWrong)

/- THE SECOND FORM. 'bulk': how many values and letters a reading holds, each counted each time it is reached (what is shared counts as often as it is met; a slice's spare places count too). A statement '..UptoSaid' is the law's where the arguments, and the package variables that the reading takes, are together of bulk at most 1048576: NARROWER than '..Said'. Prove '..Said' where nothing that the law and all that it calls make is longer than what came in: it says more and counts as full. Else prove '..UptoSaid'. A law counts once. -/
mutual
def uptoBulk {H : Type} : DataW H → Nat
  | .lit (.string bytes) => bytes.length + 1
  | .lit _ => 1
  | .nil => 1
  | .ptr d => uptoBulk d + 1
  | .slice elems spare => uptoBulkAll elems + uptoBulkAll spare + 1
  | .agg parts => uptoBulkAll parts + 1
  | .iface _ d => uptoBulk d + 1
  | .map entries => uptoBulkEntries entries + 1
  | .held _ => 1
def uptoBulkAll {H : Type} : List (DataW H) → Nat
  | [] => 0
  | d :: r => uptoBulk d + uptoBulkAll r
def uptoBulkEntries {H : Type} : List (Lit × DataW H) → Nat
  | [] => 0
  | x :: r => uptoBulkEntry x + uptoBulkEntries r
def uptoBulkEntry {H : Type} : Lit × DataW H → Nat
  | (.string bytes, d) => bytes.length + uptoBulk d + 1
  | (_, d) => uptoBulk d + 1
 end
def uptoSmall : (H : Type) → List (DataW H) → Bool := fun _ ds => decide (uptoBulkAll ds ≤ 1048576)
def OpenSpec.upto (s : _root_.Go.ChangeSpec) : _root_.Go.OpenSpec := { _root_.Go.OpenSpec.ofChange s with cond := some uptoSmall }

/-- 'haymowlaw01.WideTimes', WHERE WHAT IT READS IS OF BULK AT MOST 1048576: true; the input reads as it did. -/
def wideTimesUptoRow : OpenClaim := { program := "ytanfjgkohhlcoaa", sum := "8980854c5abbc1efc62d0e19c686e99a5a7f92778ef64bae9c7e1fdaff10b446", func := "haymow/haymowlaw01.WideTimes", spec := "wideTimes", inPlace := ["math/bits.Add64"], named := ["math/bits.divideError", "math/bits.overflowError"], apart := false, narrowed := true }
def WideTimesUptoSaid : Prop := wideTimesUptoRow.holds Try.pinned (OpenSpec.upto wideTimesSpec)

/-- 'haymowlaw01.WideLists', WHERE WHAT IT READS IS OF BULK AT MOST 1048576: true; the input reads as it did. -/
def wideListsUptoRow : OpenClaim := { program := "ytanfjgkohhlcoaa", sum := "8980854c5abbc1efc62d0e19c686e99a5a7f92778ef64bae9c7e1fdaff10b446", func := "haymow/haymowlaw01.WideLists", spec := "wideLists", inPlace := ["math/bits.Add64"], named := ["math/bits.divideError", "math/bits.overflowError"], apart := false, narrowed := true }
def WideListsUptoSaid : Prop := wideListsUptoRow.holds Try.pinned (OpenSpec.upto wideListsSpec)

/-- 'haymowlaw01.WideTexts', WHERE WHAT IT READS IS OF BULK AT MOST 1048576: true; the input reads as it did. -/
def wideTextsUptoRow : OpenClaim := { program := "ytanfjgkohhlcoaa", sum := "8980854c5abbc1efc62d0e19c686e99a5a7f92778ef64bae9c7e1fdaff10b446", func := "haymow/haymowlaw01.WideTexts", spec := "wideTexts", inPlace := ["math/bits.Add64"], named := ["math/bits.divideError", "math/bits.overflowError"], apart := false, narrowed := true }
def WideTextsUptoSaid : Prop := wideTextsUptoRow.holds Try.pinned (OpenSpec.upto wideTextsSpec)

/-- 'haymowlaw01.WideSums', WHERE WHAT IT READS IS OF BULK AT MOST 1048576: true; the input reads as it did. -/
def wideSumsUptoRow : OpenClaim := { program := "ytanfjgkohhlcoaa", sum := "8980854c5abbc1efc62d0e19c686e99a5a7f92778ef64bae9c7e1fdaff10b446", func := "haymow/haymowlaw01.WideSums", spec := "wideSums", inPlace := ["math/bits.Add64", "math/bits.Sub64"], named := ["math/bits.divideError", "math/bits.overflowError"], apart := false, narrowed := true }
def WideSumsUptoSaid : Prop := wideSumsUptoRow.holds Try.pinned (OpenSpec.upto wideSumsSpec)

/-- 'haymowlaw01.WideBack', WHERE WHAT IT READS IS OF BULK AT MOST 1048576: true; the input reads as it did. -/
def wideBackUptoRow : OpenClaim := { program := "ytanfjgkohhlcoaa", sum := "8980854c5abbc1efc62d0e19c686e99a5a7f92778ef64bae9c7e1fdaff10b446", func := "haymow/haymowlaw01.WideBack", spec := "wideBack", inPlace := ["math/bits.Add64", "math/bits.Sub64"], named := ["math/bits.divideError", "math/bits.overflowError"], apart := false, narrowed := true }
def WideBackUptoSaid : Prop := wideBackUptoRow.holds Try.pinned (OpenSpec.upto wideBackSpec)

/-- 'haymowlaw25.CostPays', WHERE WHAT IT READS IS OF BULK AT MOST 1048576: true; the input reads as it did. -/
def costPaysUptoRow : OpenClaim := { program := "ytanfjgkohhlcoaa", sum := "8980854c5abbc1efc62d0e19c686e99a5a7f92778ef64bae9c7e1fdaff10b446", func := "haymow/haymowlaw25.CostPays", spec := "costPays", inPlace := ["math/bits.Add64"], apart := false, narrowed := true }
def CostPaysUptoSaid : Prop := costPaysUptoRow.holds Try.pinned (OpenSpec.upto costPaysSpec)

/-- 'haymowlaw25.CostSums', WHERE WHAT IT READS IS OF BULK AT MOST 1048576: true; the input reads as it did. -/
def costSumsUptoRow : OpenClaim := { program := "ytanfjgkohhlcoaa", sum := "8980854c5abbc1efc62d0e19c686e99a5a7f92778ef64bae9c7e1fdaff10b446", func := "haymow/haymowlaw25.CostSums", spec := "costSums", inPlace := ["math/bits.Add64"], apart := false, narrowed := true }
def CostSumsUptoSaid : Prop := costSumsUptoRow.holds Try.pinned (OpenSpec.upto costSumsSpec)

/-- 'haymowlaw25.CostRises', WHERE WHAT IT READS IS OF BULK AT MOST 1048576: true; the input reads as it did. -/
def costRisesUptoRow : OpenClaim := { program := "ytanfjgkohhlcoaa", sum := "8980854c5abbc1efc62d0e19c686e99a5a7f92778ef64bae9c7e1fdaff10b446", func := "haymow/haymowlaw25.CostRises", spec := "costRises", inPlace := ["math/bits.Add64"], apart := false, narrowed := true }
def CostRisesUptoSaid : Prop := costRisesUptoRow.holds Try.pinned (OpenSpec.upto costRisesSpec)

/-- 'haymowlaw27.LedgerTurns', WHERE WHAT IT READS IS OF BULK AT MOST 1048576: true; the input reads as it did. -/
def ledgerTurnsUptoRow : OpenClaim := { program := "ytanfjgkohhlcoaa", sum := "8980854c5abbc1efc62d0e19c686e99a5a7f92778ef64bae9c7e1fdaff10b446", func := "haymow/haymowlaw27.LedgerTurns", spec := "ledgerTurns", inPlace := ["math/bits.Add64", "math/bits.Sub64"], named := ["math/bits.divideError", "math/bits.overflowError"], apart := false, narrowed := true }
def LedgerTurnsUptoSaid : Prop := ledgerTurnsUptoRow.holds Try.pinned (OpenSpec.upto ledgerTurnsSpec)

/-- 'haymowlaw27.LedgerBooks', WHERE WHAT IT READS IS OF BULK AT MOST 1048576: true; the input reads as it did. -/
def ledgerBooksUptoRow : OpenClaim := { program := "ytanfjgkohhlcoaa", sum := "8980854c5abbc1efc62d0e19c686e99a5a7f92778ef64bae9c7e1fdaff10b446", func := "haymow/haymowlaw27.LedgerBooks", spec := "ledgerBooks", inPlace := ["math/bits.Add64", "math/bits.Sub64"], named := ["math/bits.divideError", "math/bits.overflowError"], apart := false, narrowed := true }
def LedgerBooksUptoSaid : Prop := ledgerBooksUptoRow.holds Try.pinned (OpenSpec.upto ledgerBooksSpec)

/-- 'haymowlaw07.MeterPlays', WHERE WHAT IT READS IS OF BULK AT MOST 1048576: true; the input reads as it did. -/
def meterPlaysUptoRow : OpenClaim := { program := "ytanfjgkohhlcoaa", sum := "8980854c5abbc1efc62d0e19c686e99a5a7f92778ef64bae9c7e1fdaff10b446", func := "haymow/haymowlaw07.MeterPlays", spec := "meterPlays", inPlace := ["math/bits.Add64", "math/bits.Sub64"], apart := false, narrowed := true }
def MeterPlaysUptoSaid : Prop := meterPlaysUptoRow.holds Try.pinned (OpenSpec.upto meterPlaysSpec)

/-- 'haymowlaw07.MeterRises', WHERE WHAT IT READS IS OF BULK AT MOST 1048576: true; the input reads as it did. -/
def meterRisesUptoRow : OpenClaim := { program := "ytanfjgkohhlcoaa", sum := "8980854c5abbc1efc62d0e19c686e99a5a7f92778ef64bae9c7e1fdaff10b446", func := "haymow/haymowlaw07.MeterRises", spec := "meterRises", inPlace := ["math/bits.Add64", "math/bits.Sub64"], apart := false, narrowed := true }
def MeterRisesUptoSaid : Prop := meterRisesUptoRow.holds Try.pinned (OpenSpec.upto meterRisesSpec)

end Rows
end Go.Proofs.Ytanfjgkohhlcoaa
