/-
  No cell of these rows narrows 'for every input' (looked for: loops, veiled, ifaces, maps, wideKeys, modest, calm, conditions, laid).
  DERIVED. THE GIVEN ROWS OF THIS SEAT. 7 by the template 'for every input the law returns true; each argument reads behind the call as it read before'; 0 by the template 'total and deterministic' (their statements: YtbjealobiblabaaTotals.lean).
  GIVEN WITH THE SEED: the statements are not yours to turn. If you find one false, say at which input.
  Laid BY PROGRAM, IN A SANDBOX (cutbox-rows.mjs): the forced cells as the released guide's own fill.sh prints them over the translation 470eaa619407856c… (all of the seat's roots in one cut). By AI agents, Wed Nov 11 2026. No macro, syntax, notation, axiom, sorry.
-/
import Derived.Test.YtbjealobiblabaaChecked
import GoSem.Claim
import GoSem.ClaimJoined
import GoSem.ClaimMapViews
import Derived.JoinedTies
import Derived.KernelRfl
namespace Go.Proofs.Ytbjealobiblabaa
/- THE CELL 'sum', in the pinned program and in every row, IS THE sha256 OF THE DUMP (.gsa) THAT YtbjealobiblabaaProg.lean LOADS. Nothing in Lean hashes anything: it is a label: what it is worth is what the hold of that sum in a sandbox is worth. -/
noncomputable def Try.pinned : Pinned := { name := "ytbjealobiblabaa", sum := "470eaa619407856cb875051b38a616d44ffac0925a98da8de28da59f738db78b", checked := Try.checked }
namespace Rows
def none {H : Type} : Left H := { results := [], args := [] }

/-- 'haymowlaw23.CensusParts': WHATEVER THE INPUT: true; the input reads as it did. -/
def censusPartsSpec : ChangeSpec := { name := "censusParts", fn := fun _ => fun
  | [d] => { results := [.lit (.bool true)], args := [d] }
  | _ => none }
def censusPartsRow : OpenClaim := { program := "ytbjealobiblabaa", sum := "470eaa619407856cb875051b38a616d44ffac0925a98da8de28da59f738db78b", func := "haymow/haymowlaw23.CensusParts", spec := "censusParts", unfollowed := true, recurses := true, plainKeys := false, apart := false }
def CensusPartsSaid : Prop := censusPartsRow.holds Try.pinned (OpenSpec.ofChange censusPartsSpec)

/-- ITS FALSE NEIGHBOUR: 'it returns false'. Refute it at one input. -/
def censusPartsWrong : ChangeSpec := { name := "censusParts", fn := fun _ => fun
  | [d] => { results := [.lit (.bool false)], args := [d] }
  | _ => none }
def CensusPartsWrongFalsely : Prop := censusPartsRow.holds Try.pinned (OpenSpec.ofChange censusPartsWrong)

/-- 'haymowlaw23.CensusCounts': WHATEVER THE INPUT: true; the input reads as it did. -/
def censusCountsSpec : ChangeSpec := { name := "censusCounts", fn := fun _ => fun
  | [d1, d2] => { results := [.lit (.bool true)], args := [d1, d2] }
  | _ => none }
def censusCountsRow : OpenClaim := { program := "ytbjealobiblabaa", sum := "470eaa619407856cb875051b38a616d44ffac0925a98da8de28da59f738db78b", func := "haymow/haymowlaw23.CensusCounts", spec := "censusCounts", unfollowed := true, recurses := true, plainKeys := false, apart := false }
def CensusCountsSaid : Prop := censusCountsRow.holds Try.pinned (OpenSpec.ofChange censusCountsSpec)

/-- ITS FALSE NEIGHBOUR: 'it returns false'. Refute it at one input. -/
def censusCountsWrong : ChangeSpec := { name := "censusCounts", fn := fun _ => fun
  | [d1, d2] => { results := [.lit (.bool false)], args := [d1, d2] }
  | _ => none }
def CensusCountsWrongFalsely : Prop := censusCountsRow.holds Try.pinned (OpenSpec.ofChange censusCountsWrong)

/-- 'haymowlaw23.CensusMerges': WHATEVER THE INPUT: true; the input reads as it did. -/
def censusMergesSpec : ChangeSpec := { name := "censusMerges", fn := fun _ => fun
  | [d1, d2] => { results := [.lit (.bool true)], args := [d1, d2] }
  | _ => none }
def censusMergesRow : OpenClaim := { program := "ytbjealobiblabaa", sum := "470eaa619407856cb875051b38a616d44ffac0925a98da8de28da59f738db78b", func := "haymow/haymowlaw23.CensusMerges", spec := "censusMerges", unfollowed := true, recurses := true, plainKeys := false, apart := false }
def CensusMergesSaid : Prop := censusMergesRow.holds Try.pinned (OpenSpec.ofChange censusMergesSpec)

/-- ITS FALSE NEIGHBOUR: 'it returns false'. Refute it at one input. -/
def censusMergesWrong : ChangeSpec := { name := "censusMerges", fn := fun _ => fun
  | [d1, d2] => { results := [.lit (.bool false)], args := [d1, d2] }
  | _ => none }
def CensusMergesWrongFalsely : Prop := censusMergesRow.holds Try.pinned (OpenSpec.ofChange censusMergesWrong)

/-- 'haymowlaw29.SitesCounts': WHATEVER THE INPUT: true; the input reads as it did. -/
def sitesCountsSpec : ChangeSpec := { name := "sitesCounts", fn := fun _ => fun
  | [d1, d2, d3] => { results := [.lit (.bool true)], args := [d1, d2, d3] }
  | _ => none }
def sitesCountsRow : OpenClaim := { program := "ytbjealobiblabaa", sum := "470eaa619407856cb875051b38a616d44ffac0925a98da8de28da59f738db78b", func := "haymow/haymowlaw29.SitesCounts", spec := "sitesCounts", unfollowed := true, recurses := true, plainKeys := false, apart := false }
def SitesCountsSaid : Prop := sitesCountsRow.holds Try.pinned (OpenSpec.ofChange sitesCountsSpec)

/-- ITS FALSE NEIGHBOUR: 'it returns false'. Refute it at one input. -/
def sitesCountsWrong : ChangeSpec := { name := "sitesCounts", fn := fun _ => fun
  | [d1, d2, d3] => { results := [.lit (.bool false)], args := [d1, d2, d3] }
  | _ => none }
def SitesCountsWrongFalsely : Prop := sitesCountsRow.holds Try.pinned (OpenSpec.ofChange sitesCountsWrong)

/-- 'haymowlaw29.SitesShares': WHATEVER THE INPUT: true; the input reads as it did. -/
def sitesSharesSpec : ChangeSpec := { name := "sitesShares", fn := fun _ => fun
  | [d1, d2] => { results := [.lit (.bool true)], args := [d1, d2] }
  | _ => none }
def sitesSharesRow : OpenClaim := { program := "ytbjealobiblabaa", sum := "470eaa619407856cb875051b38a616d44ffac0925a98da8de28da59f738db78b", func := "haymow/haymowlaw29.SitesShares", spec := "sitesShares", unfollowed := true, recurses := true, plainKeys := false, apart := false }
def SitesSharesSaid : Prop := sitesSharesRow.holds Try.pinned (OpenSpec.ofChange sitesSharesSpec)

/-- ITS FALSE NEIGHBOUR: 'it returns false'. Refute it at one input. -/
def sitesSharesWrong : ChangeSpec := { name := "sitesShares", fn := fun _ => fun
  | [d1, d2] => { results := [.lit (.bool false)], args := [d1, d2] }
  | _ => none }
def SitesSharesWrongFalsely : Prop := sitesSharesRow.holds Try.pinned (OpenSpec.ofChange sitesSharesWrong)

/-- 'haymowlaw30.SurviveFalls': WHATEVER THE INPUT: true; the input reads as it did. -/
def surviveFallsSpec : ChangeSpec := { name := "surviveFalls", fn := fun _ => fun
  | [d] => { results := [.lit (.bool true)], args := [d] }
  | _ => none }
def surviveFallsRow : OpenClaim := { program := "ytbjealobiblabaa", sum := "470eaa619407856cb875051b38a616d44ffac0925a98da8de28da59f738db78b", func := "haymow/haymowlaw30.SurviveFalls", spec := "surviveFalls", unfollowed := true, recurses := true, plainKeys := false, apart := false }
def SurviveFallsSaid : Prop := surviveFallsRow.holds Try.pinned (OpenSpec.ofChange surviveFallsSpec)

/-- ITS FALSE NEIGHBOUR: 'it returns false'. Refute it at one input. -/
def surviveFallsWrong : ChangeSpec := { name := "surviveFalls", fn := fun _ => fun
  | [d] => { results := [.lit (.bool false)], args := [d] }
  | _ => none }
def SurviveFallsWrongFalsely : Prop := surviveFallsRow.holds Try.pinned (OpenSpec.ofChange surviveFallsWrong)

/-- 'haymowlaw30.SurviveCounts': WHATEVER THE INPUT: true; the input reads as it did. -/
def surviveCountsSpec : ChangeSpec := { name := "surviveCounts", fn := fun _ => fun
  | [d1, d2, d3] => { results := [.lit (.bool true)], args := [d1, d2, d3] }
  | _ => none }
def surviveCountsRow : OpenClaim := { program := "ytbjealobiblabaa", sum := "470eaa619407856cb875051b38a616d44ffac0925a98da8de28da59f738db78b", func := "haymow/haymowlaw30.SurviveCounts", spec := "surviveCounts", unfollowed := true, recurses := true, plainKeys := false, apart := false }
def SurviveCountsSaid : Prop := surviveCountsRow.holds Try.pinned (OpenSpec.ofChange surviveCountsSpec)

/-- ITS FALSE NEIGHBOUR: 'it returns false'. Refute it at one input. -/
def surviveCountsWrong : ChangeSpec := { name := "surviveCounts", fn := fun _ => fun
  | [d1, d2, d3] => { results := [.lit (.bool false)], args := [d1, d2, d3] }
  | _ => none }
def SurviveCountsWrongFalsely : Prop := surviveCountsRow.holds Try.pinned (OpenSpec.ofChange surviveCountsWrong)

/- THE SECOND FORM. 'bulk': how many values and letters a reading holds, each counted each time it is reached (what is shared counts as often as it is met; a slice's spare places count too). A statement '..UptoSaid' is the law's where the arguments, and the package variables that the reading takes, are together of bulk at most 1048576: NARROWER than '..Said'. Prove '..Said' where nothing that the law and all that it calls make is longer than what came in: it says more and counts as full. Else prove '..UptoSaid'. A law counts once. -/
mutual
def uptoBulk {H : Type} : DataW H → Nat
  | .lit (.string bytes) => bytes.length + 1
  | .lit _ => 1
  | .nil => 1
  | .ptr d => uptoBulk d + 1
  | .slice elems spare => uptoBulkAll elems + uptoBulkAll spare + 1
  | .agg parts => uptoBulkAll parts + 1
  | .iface _ d => uptoBulk d + 1
  | .map entries => uptoBulkEntries entries + 1
  | .held _ => 1
def uptoBulkAll {H : Type} : List (DataW H) → Nat
  | [] => 0
  | d :: r => uptoBulk d + uptoBulkAll r
def uptoBulkEntries {H : Type} : List (Lit × DataW H) → Nat
  | [] => 0
  | x :: r => uptoBulkEntry x + uptoBulkEntries r
def uptoBulkEntry {H : Type} : Lit × DataW H → Nat
  | (.string bytes, d) => bytes.length + uptoBulk d + 1
  | (_, d) => uptoBulk d + 1
 end
def uptoSmall : (H : Type) → List (DataW H) → Bool := fun _ ds => decide (uptoBulkAll ds ≤ 1048576)
def OpenSpec.upto (s : _root_.Go.ChangeSpec) : _root_.Go.OpenSpec := { _root_.Go.OpenSpec.ofChange s with cond := some uptoSmall }

/-- 'haymowlaw23.CensusParts', WHERE WHAT IT READS IS OF BULK AT MOST 1048576: true; the input reads as it did. -/
def censusPartsUptoRow : OpenClaim := { program := "ytbjealobiblabaa", sum := "470eaa619407856cb875051b38a616d44ffac0925a98da8de28da59f738db78b", func := "haymow/haymowlaw23.CensusParts", spec := "censusParts", unfollowed := true, recurses := true, plainKeys := false, apart := false, narrowed := true }
def CensusPartsUptoSaid : Prop := censusPartsUptoRow.holds Try.pinned (OpenSpec.upto censusPartsSpec)

/-- 'haymowlaw23.CensusCounts', WHERE WHAT IT READS IS OF BULK AT MOST 1048576: true; the input reads as it did. -/
def censusCountsUptoRow : OpenClaim := { program := "ytbjealobiblabaa", sum := "470eaa619407856cb875051b38a616d44ffac0925a98da8de28da59f738db78b", func := "haymow/haymowlaw23.CensusCounts", spec := "censusCounts", unfollowed := true, recurses := true, plainKeys := false, apart := false, narrowed := true }
def CensusCountsUptoSaid : Prop := censusCountsUptoRow.holds Try.pinned (OpenSpec.upto censusCountsSpec)

/-- 'haymowlaw23.CensusMerges', WHERE WHAT IT READS IS OF BULK AT MOST 1048576: true; the input reads as it did. -/
def censusMergesUptoRow : OpenClaim := { program := "ytbjealobiblabaa", sum := "470eaa619407856cb875051b38a616d44ffac0925a98da8de28da59f738db78b", func := "haymow/haymowlaw23.CensusMerges", spec := "censusMerges", unfollowed := true, recurses := true, plainKeys := false, apart := false, narrowed := true }
def CensusMergesUptoSaid : Prop := censusMergesUptoRow.holds Try.pinned (OpenSpec.upto censusMergesSpec)

/-- 'haymowlaw29.SitesCounts', WHERE WHAT IT READS IS OF BULK AT MOST 1048576: true; the input reads as it did. -/
def sitesCountsUptoRow : OpenClaim := { program := "ytbjealobiblabaa", sum := "470eaa619407856cb875051b38a616d44ffac0925a98da8de28da59f738db78b", func := "haymow/haymowlaw29.SitesCounts", spec := "sitesCounts", unfollowed := true, recurses := true, plainKeys := false, apart := false, narrowed := true }
def SitesCountsUptoSaid : Prop := sitesCountsUptoRow.holds Try.pinned (OpenSpec.upto sitesCountsSpec)

/-- 'haymowlaw29.SitesShares', WHERE WHAT IT READS IS OF BULK AT MOST 1048576: true; the input reads as it did. -/
def sitesSharesUptoRow : OpenClaim := { program := "ytbjealobiblabaa", sum := "470eaa619407856cb875051b38a616d44ffac0925a98da8de28da59f738db78b", func := "haymow/haymowlaw29.SitesShares", spec := "sitesShares", unfollowed := true, recurses := true, plainKeys := false, apart := false, narrowed := true }
def SitesSharesUptoSaid : Prop := sitesSharesUptoRow.holds Try.pinned (OpenSpec.upto sitesSharesSpec)

/-- 'haymowlaw30.SurviveFalls', WHERE WHAT IT READS IS OF BULK AT MOST 1048576: true; the input reads as it did. -/
def surviveFallsUptoRow : OpenClaim := { program := "ytbjealobiblabaa", sum := "470eaa619407856cb875051b38a616d44ffac0925a98da8de28da59f738db78b", func := "haymow/haymowlaw30.SurviveFalls", spec := "surviveFalls", unfollowed := true, recurses := true, plainKeys := false, apart := false, narrowed := true }
def SurviveFallsUptoSaid : Prop := surviveFallsUptoRow.holds Try.pinned (OpenSpec.upto surviveFallsSpec)

/-- 'haymowlaw30.SurviveCounts', WHERE WHAT IT READS IS OF BULK AT MOST 1048576: true; the input reads as it did. -/
def surviveCountsUptoRow : OpenClaim := { program := "ytbjealobiblabaa", sum := "470eaa619407856cb875051b38a616d44ffac0925a98da8de28da59f738db78b", func := "haymow/haymowlaw30.SurviveCounts", spec := "surviveCounts", unfollowed := true, recurses := true, plainKeys := false, apart := false, narrowed := true }
def SurviveCountsUptoSaid : Prop := surviveCountsUptoRow.holds Try.pinned (OpenSpec.upto surviveCountsSpec)

end Rows
end Go.Proofs.Ytbjealobiblabaa
