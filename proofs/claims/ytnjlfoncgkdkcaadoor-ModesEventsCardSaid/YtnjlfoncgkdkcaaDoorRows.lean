/-
  NARROWER THAN 'FOR EVERY INPUT', by the rows' own cells (each row's printed sentence says how): ModesNext: laid · ModesEvents: laid · ModesLimits: laid · ModesTrip: laid · ModesReach: laid.
  DERIVED. THE GIVEN ROWS OF THIS SEAT. 5 by the template 'for every input the law returns true; each argument reads behind the call as it read before'; 0 by the template 'total and deterministic' (their statements: YtnjlfoncgkdkcaaDoorTotals.lean).
  GIVEN WITH THE SEED: the statements are not yours to turn. If you find one false, say at which input.
  Laid BY PROGRAM, IN A SANDBOX (cutbox-rows.mjs): the forced cells as the released guide's own fill.sh prints them over the translation cf527aafa5fae5cb… (all of the seat's roots in one cut). By AI agents, Wed Nov 11 2026. No macro, syntax, notation, axiom, sorry.
-/
import Derived.Test.YtnjlfoncgkdkcaaDoorChecked
import GoSem.Claim
import GoSem.ClaimJoined
import GoSem.ClaimMapViews
import Derived.JoinedTies
import Derived.KernelRfl
namespace Go.Proofs.YtnjlfoncgkdkcaaDoor
/- THE CELL 'sum', in the pinned program and in every row, IS THE sha256 OF THE DUMP (.gsa) THAT YtnjlfoncgkdkcaaDoorProg.lean LOADS. Nothing in Lean hashes anything: it is a label: what it is worth is what the hold of that sum in a sandbox is worth. -/
noncomputable def Tryd.pinned : Pinned := { name := "ytnjlfoncgkdkcaadoor", sum := "cf527aafa5fae5cb84659dfd5f6083d0c6431387eb096a96bcb1a2f794b20019", checked := Tryd.checked }
namespace Rows
def none {H : Type} : Left H := { results := [], args := [] }

/- WHAT THE LISTED PACKAGE-LEVEL VARIABLES READ AS WHEN THE CALL BEGINS. Each datum BY PROGRAM (the guide's laid-datum.mjs) off the statement by which the dump's own 'gosem.cut.vars' lays the variable. In a bare row this is a premise. The card (YtnjlfoncgkdkcaaDoorCards.lean) ties it to the program's text. -/
def laid_signalling_modes_transitions {H : Type} : DataW H := .agg [.agg [.lit (.int .i64 0), .lit (.int .i64 0), .lit (.int .i64 0), .lit (.int .i64 0), .lit (.int .i64 0), .lit (.int .i64 0), .lit (.int .i64 0), .lit (.int .i64 0)], .agg [.lit (.int .i64 0), .lit (.int .i64 2), .lit (.int .i64 0), .lit (.int .i64 0), .lit (.int .i64 3), .lit (.int .i64 4), .lit (.int .i64 5), .lit (.int .i64 0)], .agg [.lit (.int .i64 0), .lit (.int .i64 2), .lit (.int .i64 6), .lit (.int .i64 0), .lit (.int .i64 3), .lit (.int .i64 0), .lit (.int .i64 5), .lit (.int .i64 1)], .agg [.lit (.int .i64 0), .lit (.int .i64 2), .lit (.int .i64 6), .lit (.int .i64 0), .lit (.int .i64 0), .lit (.int .i64 0), .lit (.int .i64 0), .lit (.int .i64 1)], .agg [.lit (.int .i64 0), .lit (.int .i64 0), .lit (.int .i64 6), .lit (.int .i64 0), .lit (.int .i64 0), .lit (.int .i64 0), .lit (.int .i64 0), .lit (.int .i64 1)], .agg [.lit (.int .i64 0), .lit (.int .i64 2), .lit (.int .i64 6), .lit (.int .i64 0), .lit (.int .i64 0), .lit (.int .i64 0), .lit (.int .i64 0), .lit (.int .i64 1)], .agg [.lit (.int .i64 0), .lit (.int .i64 0), .lit (.int .i64 0), .lit (.int .i64 7), .lit (.int .i64 0), .lit (.int .i64 0), .lit (.int .i64 0), .lit (.int .i64 0)], .agg [.lit (.int .i64 0), .lit (.int .i64 2), .lit (.int .i64 0), .lit (.int .i64 0), .lit (.int .i64 3), .lit (.int .i64 4), .lit (.int .i64 0), .lit (.int .i64 1)]]
def laid_signalling_modes_limits {H : Type} : DataW H := .agg [.lit (.int .i64 0), .lit (.int .i64 0), .lit (.int .i64 10000), .lit (.int .i64 1100), .lit (.int .i64 800), .lit (.int .i64 2200), .lit (.int .i64 0), .lit (.int .i64 0)]

/-- 'signallinglaw35.ModesNext': WHATEVER THE INPUT: true; the input reads as it did. -/
def modesNextSpec : ChangeSpec := { name := "modesNext", fn := fun _ => fun
  | [d1, d2] => { results := [.lit (.bool true)], args := [d1, d2] }
  | _ => none }
def modesNextRow : OpenClaim := { program := "ytnjlfoncgkdkcaadoor", sum := "cf527aafa5fae5cb84659dfd5f6083d0c6431387eb096a96bcb1a2f794b20019", func := "signalling/signallinglaw35.ModesNext", spec := "modesNext", named := ["signalling/modes.transitions", "signalling/modes.limits"], apart := false, laid := [("signalling/modes.transitions", laid_signalling_modes_transitions), ("signalling/modes.limits", laid_signalling_modes_limits)] }
def ModesNextSaid : Prop := modesNextRow.holds Tryd.pinned (OpenSpec.ofChange modesNextSpec)

/-- ITS FALSE NEIGHBOUR: 'it returns false'. Refute it at one input. -/
def modesNextWrong : ChangeSpec := { name := "modesNext", fn := fun _ => fun
  | [d1, d2] => { results := [.lit (.bool false)], args := [d1, d2] }
  | _ => none }
def ModesNextWrongFalsely : Prop := modesNextRow.holds Tryd.pinned (OpenSpec.ofChange modesNextWrong)

/-- 'signallinglaw35.ModesEvents': WHATEVER THE INPUT: true; the input reads as it did. -/
def modesEventsSpec : ChangeSpec := { name := "modesEvents", fn := fun _ => fun
  | [d1, d2] => { results := [.lit (.bool true)], args := [d1, d2] }
  | _ => none }
def modesEventsRow : OpenClaim := { program := "ytnjlfoncgkdkcaadoor", sum := "cf527aafa5fae5cb84659dfd5f6083d0c6431387eb096a96bcb1a2f794b20019", func := "signalling/signallinglaw35.ModesEvents", spec := "modesEvents", named := ["signalling/modes.transitions", "signalling/modes.limits"], apart := false, laid := [("signalling/modes.transitions", laid_signalling_modes_transitions), ("signalling/modes.limits", laid_signalling_modes_limits)] }
def ModesEventsSaid : Prop := modesEventsRow.holds Tryd.pinned (OpenSpec.ofChange modesEventsSpec)

/-- ITS FALSE NEIGHBOUR: 'it returns false'. Refute it at one input. -/
def modesEventsWrong : ChangeSpec := { name := "modesEvents", fn := fun _ => fun
  | [d1, d2] => { results := [.lit (.bool false)], args := [d1, d2] }
  | _ => none }
def ModesEventsWrongFalsely : Prop := modesEventsRow.holds Tryd.pinned (OpenSpec.ofChange modesEventsWrong)

/-- 'signallinglaw35.ModesLimits': WHATEVER THE INPUT: true; the input reads as it did. -/
def modesLimitsSpec : ChangeSpec := { name := "modesLimits", fn := fun _ => fun
  | [d] => { results := [.lit (.bool true)], args := [d] }
  | _ => none }
def modesLimitsRow : OpenClaim := { program := "ytnjlfoncgkdkcaadoor", sum := "cf527aafa5fae5cb84659dfd5f6083d0c6431387eb096a96bcb1a2f794b20019", func := "signalling/signallinglaw35.ModesLimits", spec := "modesLimits", named := ["signalling/modes.limits", "signalling/modes.transitions"], apart := false, laid := [("signalling/modes.transitions", laid_signalling_modes_transitions), ("signalling/modes.limits", laid_signalling_modes_limits)] }
def ModesLimitsSaid : Prop := modesLimitsRow.holds Tryd.pinned (OpenSpec.ofChange modesLimitsSpec)

/-- ITS FALSE NEIGHBOUR: 'it returns false'. Refute it at one input. -/
def modesLimitsWrong : ChangeSpec := { name := "modesLimits", fn := fun _ => fun
  | [d] => { results := [.lit (.bool false)], args := [d] }
  | _ => none }
def ModesLimitsWrongFalsely : Prop := modesLimitsRow.holds Tryd.pinned (OpenSpec.ofChange modesLimitsWrong)

/-- 'signallinglaw35.ModesTrip': WHATEVER THE INPUT: true; the input reads as it did. -/
def modesTripSpec : ChangeSpec := { name := "modesTrip", fn := fun _ => fun
  | [d] => { results := [.lit (.bool true)], args := [d] }
  | _ => none }
def modesTripRow : OpenClaim := { program := "ytnjlfoncgkdkcaadoor", sum := "cf527aafa5fae5cb84659dfd5f6083d0c6431387eb096a96bcb1a2f794b20019", func := "signalling/signallinglaw35.ModesTrip", spec := "modesTrip", named := ["signalling/modes.transitions", "signalling/modes.limits"], apart := false, laid := [("signalling/modes.transitions", laid_signalling_modes_transitions), ("signalling/modes.limits", laid_signalling_modes_limits)] }
def ModesTripSaid : Prop := modesTripRow.holds Tryd.pinned (OpenSpec.ofChange modesTripSpec)

/-- ITS FALSE NEIGHBOUR: 'it returns false'. Refute it at one input. -/
def modesTripWrong : ChangeSpec := { name := "modesTrip", fn := fun _ => fun
  | [d] => { results := [.lit (.bool false)], args := [d] }
  | _ => none }
def ModesTripWrongFalsely : Prop := modesTripRow.holds Tryd.pinned (OpenSpec.ofChange modesTripWrong)

/-- 'signallinglaw35.ModesReach': WHATEVER THE INPUT: true; the input reads as it did. -/
def modesReachSpec : ChangeSpec := { name := "modesReach", fn := fun _ => fun
  | [d1, d2] => { results := [.lit (.bool true)], args := [d1, d2] }
  | _ => none }
def modesReachRow : OpenClaim := { program := "ytnjlfoncgkdkcaadoor", sum := "cf527aafa5fae5cb84659dfd5f6083d0c6431387eb096a96bcb1a2f794b20019", func := "signalling/signallinglaw35.ModesReach", spec := "modesReach", named := ["signalling/modes.transitions", "signalling/modes.limits"], apart := false, laid := [("signalling/modes.transitions", laid_signalling_modes_transitions), ("signalling/modes.limits", laid_signalling_modes_limits)] }
def ModesReachSaid : Prop := modesReachRow.holds Tryd.pinned (OpenSpec.ofChange modesReachSpec)

/-- ITS FALSE NEIGHBOUR: 'it returns false'. Refute it at one input. -/
def modesReachWrong : ChangeSpec := { name := "modesReach", fn := fun _ => fun
  | [d1, d2] => { results := [.lit (.bool false)], args := [d1, d2] }
  | _ => none }
def ModesReachWrongFalsely : Prop := modesReachRow.holds Tryd.pinned (OpenSpec.ofChange modesReachWrong)

/- THE SECOND FORM. 'bulk': how many values and letters a reading holds, each counted each time it is reached (what is shared counts as often as it is met; a slice's spare places count too). A statement '..UptoSaid' is the law's where the arguments, and the package variables that the reading takes, are together of bulk at most 1048576: NARROWER than '..Said'. Prove '..Said' where nothing that the law and all that it calls make is longer than what came in: it says more and counts as full. Else prove '..UptoSaid'. A law counts once. -/
mutual
def uptoBulk {H : Type} : DataW H → Nat
  | .lit (.string bytes) => bytes.length + 1
  | .lit _ => 1
  | .nil => 1
  | .ptr d => uptoBulk d + 1
  | .slice elems spare => uptoBulkAll elems + uptoBulkAll spare + 1
  | .agg parts => uptoBulkAll parts + 1
  | .iface _ d => uptoBulk d + 1
  | .map entries => uptoBulkEntries entries + 1
  | .held _ => 1
def uptoBulkAll {H : Type} : List (DataW H) → Nat
  | [] => 0
  | d :: r => uptoBulk d + uptoBulkAll r
def uptoBulkEntries {H : Type} : List (Lit × DataW H) → Nat
  | [] => 0
  | x :: r => uptoBulkEntry x + uptoBulkEntries r
def uptoBulkEntry {H : Type} : Lit × DataW H → Nat
  | (.string bytes, d) => bytes.length + uptoBulk d + 1
  | (_, d) => uptoBulk d + 1
 end
def uptoSmall : (H : Type) → List (DataW H) → Bool := fun _ ds => decide (uptoBulkAll ds ≤ 1048576)
def OpenSpec.upto (s : _root_.Go.ChangeSpec) : _root_.Go.OpenSpec := { _root_.Go.OpenSpec.ofChange s with cond := some uptoSmall }

/-- 'signallinglaw35.ModesNext', WHERE WHAT IT READS IS OF BULK AT MOST 1048576: true; the input reads as it did. -/
def modesNextUptoRow : OpenClaim := { program := "ytnjlfoncgkdkcaadoor", sum := "cf527aafa5fae5cb84659dfd5f6083d0c6431387eb096a96bcb1a2f794b20019", func := "signalling/signallinglaw35.ModesNext", spec := "modesNext", named := ["signalling/modes.transitions", "signalling/modes.limits"], apart := false, laid := [("signalling/modes.transitions", laid_signalling_modes_transitions), ("signalling/modes.limits", laid_signalling_modes_limits)], narrowed := true }
def ModesNextUptoSaid : Prop := modesNextUptoRow.holds Tryd.pinned (OpenSpec.upto modesNextSpec)

/-- 'signallinglaw35.ModesEvents', WHERE WHAT IT READS IS OF BULK AT MOST 1048576: true; the input reads as it did. -/
def modesEventsUptoRow : OpenClaim := { program := "ytnjlfoncgkdkcaadoor", sum := "cf527aafa5fae5cb84659dfd5f6083d0c6431387eb096a96bcb1a2f794b20019", func := "signalling/signallinglaw35.ModesEvents", spec := "modesEvents", named := ["signalling/modes.transitions", "signalling/modes.limits"], apart := false, laid := [("signalling/modes.transitions", laid_signalling_modes_transitions), ("signalling/modes.limits", laid_signalling_modes_limits)], narrowed := true }
def ModesEventsUptoSaid : Prop := modesEventsUptoRow.holds Tryd.pinned (OpenSpec.upto modesEventsSpec)

/-- 'signallinglaw35.ModesLimits', WHERE WHAT IT READS IS OF BULK AT MOST 1048576: true; the input reads as it did. -/
def modesLimitsUptoRow : OpenClaim := { program := "ytnjlfoncgkdkcaadoor", sum := "cf527aafa5fae5cb84659dfd5f6083d0c6431387eb096a96bcb1a2f794b20019", func := "signalling/signallinglaw35.ModesLimits", spec := "modesLimits", named := ["signalling/modes.limits", "signalling/modes.transitions"], apart := false, laid := [("signalling/modes.transitions", laid_signalling_modes_transitions), ("signalling/modes.limits", laid_signalling_modes_limits)], narrowed := true }
def ModesLimitsUptoSaid : Prop := modesLimitsUptoRow.holds Tryd.pinned (OpenSpec.upto modesLimitsSpec)

/-- 'signallinglaw35.ModesTrip', WHERE WHAT IT READS IS OF BULK AT MOST 1048576: true; the input reads as it did. -/
def modesTripUptoRow : OpenClaim := { program := "ytnjlfoncgkdkcaadoor", sum := "cf527aafa5fae5cb84659dfd5f6083d0c6431387eb096a96bcb1a2f794b20019", func := "signalling/signallinglaw35.ModesTrip", spec := "modesTrip", named := ["signalling/modes.transitions", "signalling/modes.limits"], apart := false, laid := [("signalling/modes.transitions", laid_signalling_modes_transitions), ("signalling/modes.limits", laid_signalling_modes_limits)], narrowed := true }
def ModesTripUptoSaid : Prop := modesTripUptoRow.holds Tryd.pinned (OpenSpec.upto modesTripSpec)

/-- 'signallinglaw35.ModesReach', WHERE WHAT IT READS IS OF BULK AT MOST 1048576: true; the input reads as it did. -/
def modesReachUptoRow : OpenClaim := { program := "ytnjlfoncgkdkcaadoor", sum := "cf527aafa5fae5cb84659dfd5f6083d0c6431387eb096a96bcb1a2f794b20019", func := "signalling/signallinglaw35.ModesReach", spec := "modesReach", named := ["signalling/modes.transitions", "signalling/modes.limits"], apart := false, laid := [("signalling/modes.transitions", laid_signalling_modes_transitions), ("signalling/modes.limits", laid_signalling_modes_limits)], narrowed := true }
def ModesReachUptoSaid : Prop := modesReachUptoRow.holds Tryd.pinned (OpenSpec.upto modesReachSpec)

end Rows
end Go.Proofs.YtnjlfoncgkdkcaaDoor
