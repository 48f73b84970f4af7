/-
  No cell of these rows narrows 'for every input' (looked for: loops, veiled, ifaces, maps, wideKeys, modest, calm, conditions, laid).
  DERIVED. THE GIVEN ROWS OF THIS SEAT. 5 by the template 'for every input the law returns true; each argument reads behind the call as it read before'; 0 by the template 'total and deterministic' (their statements: YtgpbfaelhfpbfaaTotals.lean).
  GIVEN WITH THE SEED: the statements are not yours to turn. If you find one false, say at which input.
  Laid BY PROGRAM, IN A SANDBOX (cutbox-rows.mjs): the forced cells as the released guide's own fill.sh prints them over the translation 609f99e592a4b7d3… (all of the seat's roots in one cut). By AI agents, Wed Nov 11 2026. No macro, syntax, notation, axiom, sorry.
-/
import Derived.Test.YtgpbfaelhfpbfaaChecked
import GoSem.Claim
import GoSem.ClaimJoined
import GoSem.ClaimMapViews
import Derived.JoinedTies
import Derived.KernelRfl
namespace Go.Proofs.Ytgpbfaelhfpbfaa
/- THE CELL 'sum', in the pinned program and in every row, IS THE sha256 OF THE DUMP (.gsa) THAT YtgpbfaelhfpbfaaProg.lean LOADS. Nothing in Lean hashes anything: it is a label: what it is worth is what the hold of that sum in a sandbox is worth. -/
noncomputable def Try.pinned : Pinned := { name := "ytgpbfaelhfpbfaa", sum := "609f99e592a4b7d32ad20be9fcf9b1b4657172feca94688a7c52f43678a69d0b", checked := Try.checked }
namespace Rows
def none {H : Type} : Left H := { results := [], args := [] }

/-- 'signallinglaw39.AirParts': WHATEVER THE INPUT: true; the input reads as it did. -/
def airPartsSpec : ChangeSpec := { name := "airParts", fn := fun _ => fun
  | [d1, d2, d3] => { results := [.lit (.bool true)], args := [d1, d2, d3] }
  | _ => none }
def airPartsRow : OpenClaim := { program := "ytgpbfaelhfpbfaa", sum := "609f99e592a4b7d32ad20be9fcf9b1b4657172feca94688a7c52f43678a69d0b", func := "signalling/signallinglaw39.AirParts", spec := "airParts", apart := false }
def AirPartsSaid : Prop := airPartsRow.holds Try.pinned (OpenSpec.ofChange airPartsSpec)

/-- ITS FALSE NEIGHBOUR: 'it returns false'. Refute it at one input. -/
def airPartsWrong : ChangeSpec := { name := "airParts", fn := fun _ => fun
  | [d1, d2, d3] => { results := [.lit (.bool false)], args := [d1, d2, d3] }
  | _ => none }
def AirPartsWrongFalsely : Prop := airPartsRow.holds Try.pinned (OpenSpec.ofChange airPartsWrong)

/-- 'signallinglaw39.AirPush': WHATEVER THE INPUT: true; the input reads as it did. -/
def airPushSpec : ChangeSpec := { name := "airPush", fn := fun _ => fun
  | [d1, d2] => { results := [.lit (.bool true)], args := [d1, d2] }
  | _ => none }
def airPushRow : OpenClaim := { program := "ytgpbfaelhfpbfaa", sum := "609f99e592a4b7d32ad20be9fcf9b1b4657172feca94688a7c52f43678a69d0b", func := "signalling/signallinglaw39.AirPush", spec := "airPush", apart := false }
def AirPushSaid : Prop := airPushRow.holds Try.pinned (OpenSpec.ofChange airPushSpec)

/-- ITS FALSE NEIGHBOUR: 'it returns false'. Refute it at one input. -/
def airPushWrong : ChangeSpec := { name := "airPush", fn := fun _ => fun
  | [d1, d2] => { results := [.lit (.bool false)], args := [d1, d2] }
  | _ => none }
def AirPushWrongFalsely : Prop := airPushRow.holds Try.pinned (OpenSpec.ofChange airPushWrong)

/-- 'signallinglaw39.AirFlies': WHATEVER THE INPUT: true; the input reads as it did. -/
def airFliesSpec : ChangeSpec := { name := "airFlies", fn := fun _ => fun
  | [d1, d2, d3, d4] => { results := [.lit (.bool true)], args := [d1, d2, d3, d4] }
  | _ => none }
def airFliesRow : OpenClaim := { program := "ytgpbfaelhfpbfaa", sum := "609f99e592a4b7d32ad20be9fcf9b1b4657172feca94688a7c52f43678a69d0b", func := "signalling/signallinglaw39.AirFlies", spec := "airFlies", apart := false }
def AirFliesSaid : Prop := airFliesRow.holds Try.pinned (OpenSpec.ofChange airFliesSpec)

/-- ITS FALSE NEIGHBOUR: 'it returns false'. Refute it at one input. -/
def airFliesWrong : ChangeSpec := { name := "airFlies", fn := fun _ => fun
  | [d1, d2, d3, d4] => { results := [.lit (.bool false)], args := [d1, d2, d3, d4] }
  | _ => none }
def AirFliesWrongFalsely : Prop := airFliesRow.holds Try.pinned (OpenSpec.ofChange airFliesWrong)

/-- 'signallinglaw39.AirConserves': WHATEVER THE INPUT: true; the input reads as it did. -/
def airConservesSpec : ChangeSpec := { name := "airConserves", fn := fun _ => fun
  | [d1, d2] => { results := [.lit (.bool true)], args := [d1, d2] }
  | _ => none }
def airConservesRow : OpenClaim := { program := "ytgpbfaelhfpbfaa", sum := "609f99e592a4b7d32ad20be9fcf9b1b4657172feca94688a7c52f43678a69d0b", func := "signalling/signallinglaw39.AirConserves", spec := "airConserves", apart := false }
def AirConservesSaid : Prop := airConservesRow.holds Try.pinned (OpenSpec.ofChange airConservesSpec)

/-- ITS FALSE NEIGHBOUR: 'it returns false'. Refute it at one input. -/
def airConservesWrong : ChangeSpec := { name := "airConserves", fn := fun _ => fun
  | [d1, d2] => { results := [.lit (.bool false)], args := [d1, d2] }
  | _ => none }
def AirConservesWrongFalsely : Prop := airConservesRow.holds Try.pinned (OpenSpec.ofChange airConservesWrong)

/-- 'signallinglaw39.AirAges': WHATEVER THE INPUT: true; the input reads as it did. -/
def airAgesSpec : ChangeSpec := { name := "airAges", fn := fun _ => fun
  | [d1, d2] => { results := [.lit (.bool true)], args := [d1, d2] }
  | _ => none }
def airAgesRow : OpenClaim := { program := "ytgpbfaelhfpbfaa", sum := "609f99e592a4b7d32ad20be9fcf9b1b4657172feca94688a7c52f43678a69d0b", func := "signalling/signallinglaw39.AirAges", spec := "airAges", apart := false }
def AirAgesSaid : Prop := airAgesRow.holds Try.pinned (OpenSpec.ofChange airAgesSpec)

/-- ITS FALSE NEIGHBOUR: 'it returns false'. Refute it at one input. -/
def airAgesWrong : ChangeSpec := { name := "airAges", fn := fun _ => fun
  | [d1, d2] => { results := [.lit (.bool false)], args := [d1, d2] }
  | _ => none }
def AirAgesWrongFalsely : Prop := airAgesRow.holds Try.pinned (OpenSpec.ofChange airAgesWrong)

/- THE SECOND FORM. 'bulk': how many values and letters a reading holds, each counted each time it is reached (what is shared counts as often as it is met; a slice's spare places count too). A statement '..UptoSaid' is the law's where the arguments, and the package variables that the reading takes, are together of bulk at most 1048576: NARROWER than '..Said'. Prove '..Said' where nothing that the law and all that it calls make is longer than what came in: it says more and counts as full. Else prove '..UptoSaid'. A law counts once. -/
mutual
def uptoBulk {H : Type} : DataW H → Nat
  | .lit (.string bytes) => bytes.length + 1
  | .lit _ => 1
  | .nil => 1
  | .ptr d => uptoBulk d + 1
  | .slice elems spare => uptoBulkAll elems + uptoBulkAll spare + 1
  | .agg parts => uptoBulkAll parts + 1
  | .iface _ d => uptoBulk d + 1
  | .map entries => uptoBulkEntries entries + 1
  | .held _ => 1
def uptoBulkAll {H : Type} : List (DataW H) → Nat
  | [] => 0
  | d :: r => uptoBulk d + uptoBulkAll r
def uptoBulkEntries {H : Type} : List (Lit × DataW H) → Nat
  | [] => 0
  | x :: r => uptoBulkEntry x + uptoBulkEntries r
def uptoBulkEntry {H : Type} : Lit × DataW H → Nat
  | (.string bytes, d) => bytes.length + uptoBulk d + 1
  | (_, d) => uptoBulk d + 1
 end
def uptoSmall : (H : Type) → List (DataW H) → Bool := fun _ ds => decide (uptoBulkAll ds ≤ 1048576)
def OpenSpec.upto (s : _root_.Go.ChangeSpec) : _root_.Go.OpenSpec := { _root_.Go.OpenSpec.ofChange s with cond := some uptoSmall }

/-- 'signallinglaw39.AirParts', WHERE WHAT IT READS IS OF BULK AT MOST 1048576: true; the input reads as it did. -/
def airPartsUptoRow : OpenClaim := { program := "ytgpbfaelhfpbfaa", sum := "609f99e592a4b7d32ad20be9fcf9b1b4657172feca94688a7c52f43678a69d0b", func := "signalling/signallinglaw39.AirParts", spec := "airParts", apart := false, narrowed := true }
def AirPartsUptoSaid : Prop := airPartsUptoRow.holds Try.pinned (OpenSpec.upto airPartsSpec)

/-- 'signallinglaw39.AirPush', WHERE WHAT IT READS IS OF BULK AT MOST 1048576: true; the input reads as it did. -/
def airPushUptoRow : OpenClaim := { program := "ytgpbfaelhfpbfaa", sum := "609f99e592a4b7d32ad20be9fcf9b1b4657172feca94688a7c52f43678a69d0b", func := "signalling/signallinglaw39.AirPush", spec := "airPush", apart := false, narrowed := true }
def AirPushUptoSaid : Prop := airPushUptoRow.holds Try.pinned (OpenSpec.upto airPushSpec)

/-- 'signallinglaw39.AirFlies', WHERE WHAT IT READS IS OF BULK AT MOST 1048576: true; the input reads as it did. -/
def airFliesUptoRow : OpenClaim := { program := "ytgpbfaelhfpbfaa", sum := "609f99e592a4b7d32ad20be9fcf9b1b4657172feca94688a7c52f43678a69d0b", func := "signalling/signallinglaw39.AirFlies", spec := "airFlies", apart := false, narrowed := true }
def AirFliesUptoSaid : Prop := airFliesUptoRow.holds Try.pinned (OpenSpec.upto airFliesSpec)

/-- 'signallinglaw39.AirConserves', WHERE WHAT IT READS IS OF BULK AT MOST 1048576: true; the input reads as it did. -/
def airConservesUptoRow : OpenClaim := { program := "ytgpbfaelhfpbfaa", sum := "609f99e592a4b7d32ad20be9fcf9b1b4657172feca94688a7c52f43678a69d0b", func := "signalling/signallinglaw39.AirConserves", spec := "airConserves", apart := false, narrowed := true }
def AirConservesUptoSaid : Prop := airConservesUptoRow.holds Try.pinned (OpenSpec.upto airConservesSpec)

/-- 'signallinglaw39.AirAges', WHERE WHAT IT READS IS OF BULK AT MOST 1048576: true; the input reads as it did. -/
def airAgesUptoRow : OpenClaim := { program := "ytgpbfaelhfpbfaa", sum := "609f99e592a4b7d32ad20be9fcf9b1b4657172feca94688a7c52f43678a69d0b", func := "signalling/signallinglaw39.AirAges", spec := "airAges", apart := false, narrowed := true }
def AirAgesUptoSaid : Prop := airAgesUptoRow.holds Try.pinned (OpenSpec.upto airAgesSpec)

end Rows
end Go.Proofs.Ytgpbfaelhfpbfaa
