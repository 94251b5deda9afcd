/-
  No cell of these rows narrows 'for every input' (looked for: loops, veiled, ifaces, maps, wideKeys, modest, calm, conditions, laid).
  DERIVED. THE GIVEN ROWS OF THIS SEAT. 6 by the template 'for every input the law returns true; each argument reads behind the call as it read before'; 0 by the template 'total and deterministic' (their statements: YtlcaanodbhigkaaTotals.lean).
  GIVEN WITH THE SEED: the statements are not yours to turn. If you find one false, say at which input.
  Laid BY PROGRAM, IN A SANDBOX (cutbox-rows.mjs): the forced cells as the released guide's own fill.sh prints them over the translation d97c4a0e1c4ba189… (all of the seat's roots in one cut). By AI agents, Wed Nov 11 2026. No macro, syntax, notation, axiom, sorry.
-/
import Derived.Test.YtlcaanodbhigkaaChecked
import GoSem.Claim
import GoSem.ClaimJoined
import GoSem.ClaimMapViews
import Derived.JoinedTies
import Derived.KernelRfl
namespace Go.Proofs.Ytlcaanodbhigkaa
/- THE CELL 'sum', in the pinned program and in every row, IS THE sha256 OF THE DUMP (.gsa) THAT YtlcaanodbhigkaaProg.lean LOADS. Nothing in Lean hashes anything: it is a label: what it is worth is what the hold of that sum in a sandbox is worth. -/
noncomputable def Try.pinned : Pinned := { name := "ytlcaanodbhigkaa", sum := "d97c4a0e1c4ba189dff8f3dc8acd0d657dbb1a0dd9574d39666cde801c996216", checked := Try.checked }
namespace Rows
def none {H : Type} : Left H := { results := [], args := [] }

/-- 'haymowlaw26.ControlHolds': WHATEVER THE INPUT: true; the input reads as it did. -/
def controlHoldsSpec : ChangeSpec := { name := "controlHolds", fn := fun _ => fun
  | [d1, d2] => { results := [.lit (.bool true)], args := [d1, d2] }
  | _ => none }
def controlHoldsRow : OpenClaim := { program := "ytlcaanodbhigkaa", sum := "d97c4a0e1c4ba189dff8f3dc8acd0d657dbb1a0dd9574d39666cde801c996216", func := "haymow/haymowlaw26.ControlHolds", spec := "controlHolds", apart := false }
def ControlHoldsSaid : Prop := controlHoldsRow.holds Try.pinned (OpenSpec.ofChange controlHoldsSpec)

/-- ITS FALSE NEIGHBOUR: 'it returns false'. Refute it at one input. -/
def controlHoldsWrong : ChangeSpec := { name := "controlHolds", fn := fun _ => fun
  | [d1, d2] => { results := [.lit (.bool false)], args := [d1, d2] }
  | _ => none }
def ControlHoldsWrongFalsely : Prop := controlHoldsRow.holds Try.pinned (OpenSpec.ofChange controlHoldsWrong)

/-- 'haymowlaw26.ControlSettles': WHATEVER THE INPUT: true; the input reads as it did. -/
def controlSettlesSpec : ChangeSpec := { name := "controlSettles", fn := fun _ => fun
  | [d1, d2, d3] => { results := [.lit (.bool true)], args := [d1, d2, d3] }
  | _ => none }
def controlSettlesRow : OpenClaim := { program := "ytlcaanodbhigkaa", sum := "d97c4a0e1c4ba189dff8f3dc8acd0d657dbb1a0dd9574d39666cde801c996216", func := "haymow/haymowlaw26.ControlSettles", spec := "controlSettles", apart := false }
def ControlSettlesSaid : Prop := controlSettlesRow.holds Try.pinned (OpenSpec.ofChange controlSettlesSpec)

/-- ITS FALSE NEIGHBOUR: 'it returns false'. Refute it at one input. -/
def controlSettlesWrong : ChangeSpec := { name := "controlSettles", fn := fun _ => fun
  | [d1, d2, d3] => { results := [.lit (.bool false)], args := [d1, d2, d3] }
  | _ => none }
def ControlSettlesWrongFalsely : Prop := controlSettlesRow.holds Try.pinned (OpenSpec.ofChange controlSettlesWrong)

/-- 'haymowlaw26.ControlTurns': WHATEVER THE INPUT: true; the input reads as it did. -/
def controlTurnsSpec : ChangeSpec := { name := "controlTurns", fn := fun _ => fun
  | [d1, d2, d3] => { results := [.lit (.bool true)], args := [d1, d2, d3] }
  | _ => none }
def controlTurnsRow : OpenClaim := { program := "ytlcaanodbhigkaa", sum := "d97c4a0e1c4ba189dff8f3dc8acd0d657dbb1a0dd9574d39666cde801c996216", func := "haymow/haymowlaw26.ControlTurns", spec := "controlTurns", apart := false }
def ControlTurnsSaid : Prop := controlTurnsRow.holds Try.pinned (OpenSpec.ofChange controlTurnsSpec)

/-- ITS FALSE NEIGHBOUR: 'it returns false'. Refute it at one input. -/
def controlTurnsWrong : ChangeSpec := { name := "controlTurns", fn := fun _ => fun
  | [d1, d2, d3] => { results := [.lit (.bool false)], args := [d1, d2, d3] }
  | _ => none }
def ControlTurnsWrongFalsely : Prop := controlTurnsRow.holds Try.pinned (OpenSpec.ofChange controlTurnsWrong)

/-- 'haymowlaw28.GateJudges': WHATEVER THE INPUT: true; the input reads as it did. -/
def gateJudgesSpec : ChangeSpec := { name := "gateJudges", fn := fun _ => fun
  | [d1, d2] => { results := [.lit (.bool true)], args := [d1, d2] }
  | _ => none }
def gateJudgesRow : OpenClaim := { program := "ytlcaanodbhigkaa", sum := "d97c4a0e1c4ba189dff8f3dc8acd0d657dbb1a0dd9574d39666cde801c996216", func := "haymow/haymowlaw28.GateJudges", spec := "gateJudges", apart := false }
def GateJudgesSaid : Prop := gateJudgesRow.holds Try.pinned (OpenSpec.ofChange gateJudgesSpec)

/-- ITS FALSE NEIGHBOUR: 'it returns false'. Refute it at one input. -/
def gateJudgesWrong : ChangeSpec := { name := "gateJudges", fn := fun _ => fun
  | [d1, d2] => { results := [.lit (.bool false)], args := [d1, d2] }
  | _ => none }
def GateJudgesWrongFalsely : Prop := gateJudgesRow.holds Try.pinned (OpenSpec.ofChange gateJudgesWrong)

/-- 'haymowlaw28.GateFair': WHATEVER THE INPUT: true; the input reads as it did. -/
def gateFairSpec : ChangeSpec := { name := "gateFair", fn := fun _ => fun
  | [d1, d2, d3] => { results := [.lit (.bool true)], args := [d1, d2, d3] }
  | _ => none }
def gateFairRow : OpenClaim := { program := "ytlcaanodbhigkaa", sum := "d97c4a0e1c4ba189dff8f3dc8acd0d657dbb1a0dd9574d39666cde801c996216", func := "haymow/haymowlaw28.GateFair", spec := "gateFair", apart := false }
def GateFairSaid : Prop := gateFairRow.holds Try.pinned (OpenSpec.ofChange gateFairSpec)

/-- ITS FALSE NEIGHBOUR: 'it returns false'. Refute it at one input. -/
def gateFairWrong : ChangeSpec := { name := "gateFair", fn := fun _ => fun
  | [d1, d2, d3] => { results := [.lit (.bool false)], args := [d1, d2, d3] }
  | _ => none }
def GateFairWrongFalsely : Prop := gateFairRow.holds Try.pinned (OpenSpec.ofChange gateFairWrong)

/-- 'haymowlaw28.GatePays': WHATEVER THE INPUT: true; the input reads as it did. -/
def gatePaysSpec : ChangeSpec := { name := "gatePays", fn := fun _ => fun
  | [d1, d2] => { results := [.lit (.bool true)], args := [d1, d2] }
  | _ => none }
def gatePaysRow : OpenClaim := { program := "ytlcaanodbhigkaa", sum := "d97c4a0e1c4ba189dff8f3dc8acd0d657dbb1a0dd9574d39666cde801c996216", func := "haymow/haymowlaw28.GatePays", spec := "gatePays", apart := false }
def GatePaysSaid : Prop := gatePaysRow.holds Try.pinned (OpenSpec.ofChange gatePaysSpec)

/-- ITS FALSE NEIGHBOUR: 'it returns false'. Refute it at one input. -/
def gatePaysWrong : ChangeSpec := { name := "gatePays", fn := fun _ => fun
  | [d1, d2] => { results := [.lit (.bool false)], args := [d1, d2] }
  | _ => none }
def GatePaysWrongFalsely : Prop := gatePaysRow.holds Try.pinned (OpenSpec.ofChange gatePaysWrong)

/- THE SECOND FORM. 'bulk': how many values and letters a reading holds, each counted each time it is reached (what is shared counts as often as it is met; a slice's spare places count too). A statement '..UptoSaid' is the law's where the arguments, and the package variables that the reading takes, are together of bulk at most 1048576: NARROWER than '..Said'. Prove '..Said' where nothing that the law and all that it calls make is longer than what came in: it says more and counts as full. Else prove '..UptoSaid'. A law counts once. -/
mutual
def uptoBulk {H : Type} : DataW H → Nat
  | .lit (.string bytes) => bytes.length + 1
  | .lit _ => 1
  | .nil => 1
  | .ptr d => uptoBulk d + 1
  | .slice elems spare => uptoBulkAll elems + uptoBulkAll spare + 1
  | .agg parts => uptoBulkAll parts + 1
  | .iface _ d => uptoBulk d + 1
  | .map entries => uptoBulkEntries entries + 1
  | .held _ => 1
def uptoBulkAll {H : Type} : List (DataW H) → Nat
  | [] => 0
  | d :: r => uptoBulk d + uptoBulkAll r
def uptoBulkEntries {H : Type} : List (Lit × DataW H) → Nat
  | [] => 0
  | x :: r => uptoBulkEntry x + uptoBulkEntries r
def uptoBulkEntry {H : Type} : Lit × DataW H → Nat
  | (.string bytes, d) => bytes.length + uptoBulk d + 1
  | (_, d) => uptoBulk d + 1
 end
def uptoSmall : (H : Type) → List (DataW H) → Bool := fun _ ds => decide (uptoBulkAll ds ≤ 1048576)
def OpenSpec.upto (s : _root_.Go.ChangeSpec) : _root_.Go.OpenSpec := { _root_.Go.OpenSpec.ofChange s with cond := some uptoSmall }

/-- 'haymowlaw26.ControlHolds', WHERE WHAT IT READS IS OF BULK AT MOST 1048576: true; the input reads as it did. -/
def controlHoldsUptoRow : OpenClaim := { program := "ytlcaanodbhigkaa", sum := "d97c4a0e1c4ba189dff8f3dc8acd0d657dbb1a0dd9574d39666cde801c996216", func := "haymow/haymowlaw26.ControlHolds", spec := "controlHolds", apart := false, narrowed := true }
def ControlHoldsUptoSaid : Prop := controlHoldsUptoRow.holds Try.pinned (OpenSpec.upto controlHoldsSpec)

/-- 'haymowlaw26.ControlSettles', WHERE WHAT IT READS IS OF BULK AT MOST 1048576: true; the input reads as it did. -/
def controlSettlesUptoRow : OpenClaim := { program := "ytlcaanodbhigkaa", sum := "d97c4a0e1c4ba189dff8f3dc8acd0d657dbb1a0dd9574d39666cde801c996216", func := "haymow/haymowlaw26.ControlSettles", spec := "controlSettles", apart := false, narrowed := true }
def ControlSettlesUptoSaid : Prop := controlSettlesUptoRow.holds Try.pinned (OpenSpec.upto controlSettlesSpec)

/-- 'haymowlaw26.ControlTurns', WHERE WHAT IT READS IS OF BULK AT MOST 1048576: true; the input reads as it did. -/
def controlTurnsUptoRow : OpenClaim := { program := "ytlcaanodbhigkaa", sum := "d97c4a0e1c4ba189dff8f3dc8acd0d657dbb1a0dd9574d39666cde801c996216", func := "haymow/haymowlaw26.ControlTurns", spec := "controlTurns", apart := false, narrowed := true }
def ControlTurnsUptoSaid : Prop := controlTurnsUptoRow.holds Try.pinned (OpenSpec.upto controlTurnsSpec)

/-- 'haymowlaw28.GateJudges', WHERE WHAT IT READS IS OF BULK AT MOST 1048576: true; the input reads as it did. -/
def gateJudgesUptoRow : OpenClaim := { program := "ytlcaanodbhigkaa", sum := "d97c4a0e1c4ba189dff8f3dc8acd0d657dbb1a0dd9574d39666cde801c996216", func := "haymow/haymowlaw28.GateJudges", spec := "gateJudges", apart := false, narrowed := true }
def GateJudgesUptoSaid : Prop := gateJudgesUptoRow.holds Try.pinned (OpenSpec.upto gateJudgesSpec)

/-- 'haymowlaw28.GateFair', WHERE WHAT IT READS IS OF BULK AT MOST 1048576: true; the input reads as it did. -/
def gateFairUptoRow : OpenClaim := { program := "ytlcaanodbhigkaa", sum := "d97c4a0e1c4ba189dff8f3dc8acd0d657dbb1a0dd9574d39666cde801c996216", func := "haymow/haymowlaw28.GateFair", spec := "gateFair", apart := false, narrowed := true }
def GateFairUptoSaid : Prop := gateFairUptoRow.holds Try.pinned (OpenSpec.upto gateFairSpec)

/-- 'haymowlaw28.GatePays', WHERE WHAT IT READS IS OF BULK AT MOST 1048576: true; the input reads as it did. -/
def gatePaysUptoRow : OpenClaim := { program := "ytlcaanodbhigkaa", sum := "d97c4a0e1c4ba189dff8f3dc8acd0d657dbb1a0dd9574d39666cde801c996216", func := "haymow/haymowlaw28.GatePays", spec := "gatePays", apart := false, narrowed := true }
def GatePaysUptoSaid : Prop := gatePaysUptoRow.holds Try.pinned (OpenSpec.upto gatePaysSpec)

end Rows
end Go.Proofs.Ytlcaanodbhigkaa
