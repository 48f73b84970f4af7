/-
  No cell of these rows narrows 'for every input' (looked for: loops, veiled, ifaces, maps, wideKeys, modest, calm, conditions, laid).
  DERIVED. THE GIVEN ROWS OF THIS SEAT. 5 by the template 'for every input the law returns true; each argument reads behind the call as it read before'; 0 by the template 'total and deterministic' (their statements: YtilipdcdnckagaaTotals.lean).
  GIVEN WITH THE SEED: the statements are not yours to turn. If you find one false, say at which input.
  Laid BY PROGRAM, IN A SANDBOX (cutbox-rows.mjs): the forced cells as the released guide's own fill.sh prints them over the translation 8a81ab2843e16673… (all of the seat's roots in one cut). By AI agents, Wed Nov 11 2026. No macro, syntax, notation, axiom, sorry.
-/
import Derived.Test.YtilipdcdnckagaaChecked
import GoSem.Claim
import GoSem.ClaimJoined
import GoSem.ClaimMapViews
import Derived.JoinedTies
import Derived.KernelRfl
namespace Go.Proofs.Ytilipdcdnckagaa
/- THE CELL 'sum', in the pinned program and in every row, IS THE sha256 OF THE DUMP (.gsa) THAT YtilipdcdnckagaaProg.lean LOADS. Nothing in Lean hashes anything: it is a label: what it is worth is what the hold of that sum in a sandbox is worth. -/
noncomputable def Try.pinned : Pinned := { name := "ytilipdcdnckagaa", sum := "8a81ab2843e16673387b7c0a6809b1229ab3a383d7fecebe9db4f40edfd3a5c7", checked := Try.checked }
namespace Rows
def none {H : Type} : Left H := { results := [], args := [] }

/-- 'signallinglaw36.IntegrityTells': WHATEVER THE INPUT: true; the input reads as it did. -/
def integrityTellsSpec : ChangeSpec := { name := "integrityTells", fn := fun _ => fun
  | [d1, d2] => { results := [.lit (.bool true)], args := [d1, d2] }
  | _ => none }
def integrityTellsRow : OpenClaim := { program := "ytilipdcdnckagaa", sum := "8a81ab2843e16673387b7c0a6809b1229ab3a383d7fecebe9db4f40edfd3a5c7", func := "signalling/signallinglaw36.IntegrityTells", spec := "integrityTells", apart := false }
def IntegrityTellsSaid : Prop := integrityTellsRow.holds Try.pinned (OpenSpec.ofChange integrityTellsSpec)

/-- ITS FALSE NEIGHBOUR: 'it returns false'. Refute it at one input. -/
def integrityTellsWrong : ChangeSpec := { name := "integrityTells", fn := fun _ => fun
  | [d1, d2] => { results := [.lit (.bool false)], args := [d1, d2] }
  | _ => none }
def IntegrityTellsWrongFalsely : Prop := integrityTellsRow.holds Try.pinned (OpenSpec.ofChange integrityTellsWrong)

/-- 'signallinglaw36.IntegrityRear': WHATEVER THE INPUT: true; the input reads as it did. -/
def integrityRearSpec : ChangeSpec := { name := "integrityRear", fn := fun _ => fun
  | [d1, d2, d3] => { results := [.lit (.bool true)], args := [d1, d2, d3] }
  | _ => none }
def integrityRearRow : OpenClaim := { program := "ytilipdcdnckagaa", sum := "8a81ab2843e16673387b7c0a6809b1229ab3a383d7fecebe9db4f40edfd3a5c7", func := "signalling/signallinglaw36.IntegrityRear", spec := "integrityRear", apart := false }
def IntegrityRearSaid : Prop := integrityRearRow.holds Try.pinned (OpenSpec.ofChange integrityRearSpec)

/-- ITS FALSE NEIGHBOUR: 'it returns false'. Refute it at one input. -/
def integrityRearWrong : ChangeSpec := { name := "integrityRear", fn := fun _ => fun
  | [d1, d2, d3] => { results := [.lit (.bool false)], args := [d1, d2, d3] }
  | _ => none }
def IntegrityRearWrongFalsely : Prop := integrityRearRow.holds Try.pinned (OpenSpec.ofChange integrityRearWrong)

/-- 'signallinglaw36.IntegrityAges': WHATEVER THE INPUT: true; the input reads as it did. -/
def integrityAgesSpec : ChangeSpec := { name := "integrityAges", fn := fun _ => fun
  | [d1, d2, d3] => { results := [.lit (.bool true)], args := [d1, d2, d3] }
  | _ => none }
def integrityAgesRow : OpenClaim := { program := "ytilipdcdnckagaa", sum := "8a81ab2843e16673387b7c0a6809b1229ab3a383d7fecebe9db4f40edfd3a5c7", func := "signalling/signallinglaw36.IntegrityAges", spec := "integrityAges", apart := false }
def IntegrityAgesSaid : Prop := integrityAgesRow.holds Try.pinned (OpenSpec.ofChange integrityAgesSpec)

/-- ITS FALSE NEIGHBOUR: 'it returns false'. Refute it at one input. -/
def integrityAgesWrong : ChangeSpec := { name := "integrityAges", fn := fun _ => fun
  | [d1, d2, d3] => { results := [.lit (.bool false)], args := [d1, d2, d3] }
  | _ => none }
def IntegrityAgesWrongFalsely : Prop := integrityAgesRow.holds Try.pinned (OpenSpec.ofChange integrityAgesWrong)

/-- 'signallinglaw36.IntegrityOrder': WHATEVER THE INPUT: true; the input reads as it did. -/
def integrityOrderSpec : ChangeSpec := { name := "integrityOrder", fn := fun _ => fun
  | [d1, d2, d3, d4, d5] => { results := [.lit (.bool true)], args := [d1, d2, d3, d4, d5] }
  | _ => none }
def integrityOrderRow : OpenClaim := { program := "ytilipdcdnckagaa", sum := "8a81ab2843e16673387b7c0a6809b1229ab3a383d7fecebe9db4f40edfd3a5c7", func := "signalling/signallinglaw36.IntegrityOrder", spec := "integrityOrder", apart := false }
def IntegrityOrderSaid : Prop := integrityOrderRow.holds Try.pinned (OpenSpec.ofChange integrityOrderSpec)

/-- ITS FALSE NEIGHBOUR: 'it returns false'. Refute it at one input. -/
def integrityOrderWrong : ChangeSpec := { name := "integrityOrder", fn := fun _ => fun
  | [d1, d2, d3, d4, d5] => { results := [.lit (.bool false)], args := [d1, d2, d3, d4, d5] }
  | _ => none }
def IntegrityOrderWrongFalsely : Prop := integrityOrderRow.holds Try.pinned (OpenSpec.ofChange integrityOrderWrong)

/-- 'signallinglaw36.IntegrityDistance': WHATEVER THE INPUT: true; the input reads as it did. -/
def integrityDistanceSpec : ChangeSpec := { name := "integrityDistance", fn := fun _ => fun
  | [d1, d2] => { results := [.lit (.bool true)], args := [d1, d2] }
  | _ => none }
def integrityDistanceRow : OpenClaim := { program := "ytilipdcdnckagaa", sum := "8a81ab2843e16673387b7c0a6809b1229ab3a383d7fecebe9db4f40edfd3a5c7", func := "signalling/signallinglaw36.IntegrityDistance", spec := "integrityDistance", apart := false }
def IntegrityDistanceSaid : Prop := integrityDistanceRow.holds Try.pinned (OpenSpec.ofChange integrityDistanceSpec)

/-- ITS FALSE NEIGHBOUR: 'it returns false'. Refute it at one input. -/
def integrityDistanceWrong : ChangeSpec := { name := "integrityDistance", fn := fun _ => fun
  | [d1, d2] => { results := [.lit (.bool false)], args := [d1, d2] }
  | _ => none }
def IntegrityDistanceWrongFalsely : Prop := integrityDistanceRow.holds Try.pinned (OpenSpec.ofChange integrityDistanceWrong)

/- THE SECOND FORM. 'bulk': how many values and letters a reading holds, each counted each time it is reached (what is shared counts as often as it is met; a slice's spare places count too). A statement '..UptoSaid' is the law's where the arguments, and the package variables that the reading takes, are together of bulk at most 1048576: NARROWER than '..Said'. Prove '..Said' where nothing that the law and all that it calls make is longer than what came in: it says more and counts as full. Else prove '..UptoSaid'. A law counts once. -/
mutual
def uptoBulk {H : Type} : DataW H → Nat
  | .lit (.string bytes) => bytes.length + 1
  | .lit _ => 1
  | .nil => 1
  | .ptr d => uptoBulk d + 1
  | .slice elems spare => uptoBulkAll elems + uptoBulkAll spare + 1
  | .agg parts => uptoBulkAll parts + 1
  | .iface _ d => uptoBulk d + 1
  | .map entries => uptoBulkEntries entries + 1
  | .held _ => 1
def uptoBulkAll {H : Type} : List (DataW H) → Nat
  | [] => 0
  | d :: r => uptoBulk d + uptoBulkAll r
def uptoBulkEntries {H : Type} : List (Lit × DataW H) → Nat
  | [] => 0
  | x :: r => uptoBulkEntry x + uptoBulkEntries r
def uptoBulkEntry {H : Type} : Lit × DataW H → Nat
  | (.string bytes, d) => bytes.length + uptoBulk d + 1
  | (_, d) => uptoBulk d + 1
 end
def uptoSmall : (H : Type) → List (DataW H) → Bool := fun _ ds => decide (uptoBulkAll ds ≤ 1048576)
def OpenSpec.upto (s : _root_.Go.ChangeSpec) : _root_.Go.OpenSpec := { _root_.Go.OpenSpec.ofChange s with cond := some uptoSmall }

/-- 'signallinglaw36.IntegrityTells', WHERE WHAT IT READS IS OF BULK AT MOST 1048576: true; the input reads as it did. -/
def integrityTellsUptoRow : OpenClaim := { program := "ytilipdcdnckagaa", sum := "8a81ab2843e16673387b7c0a6809b1229ab3a383d7fecebe9db4f40edfd3a5c7", func := "signalling/signallinglaw36.IntegrityTells", spec := "integrityTells", apart := false, narrowed := true }
def IntegrityTellsUptoSaid : Prop := integrityTellsUptoRow.holds Try.pinned (OpenSpec.upto integrityTellsSpec)

/-- 'signallinglaw36.IntegrityRear', WHERE WHAT IT READS IS OF BULK AT MOST 1048576: true; the input reads as it did. -/
def integrityRearUptoRow : OpenClaim := { program := "ytilipdcdnckagaa", sum := "8a81ab2843e16673387b7c0a6809b1229ab3a383d7fecebe9db4f40edfd3a5c7", func := "signalling/signallinglaw36.IntegrityRear", spec := "integrityRear", apart := false, narrowed := true }
def IntegrityRearUptoSaid : Prop := integrityRearUptoRow.holds Try.pinned (OpenSpec.upto integrityRearSpec)

/-- 'signallinglaw36.IntegrityAges', WHERE WHAT IT READS IS OF BULK AT MOST 1048576: true; the input reads as it did. -/
def integrityAgesUptoRow : OpenClaim := { program := "ytilipdcdnckagaa", sum := "8a81ab2843e16673387b7c0a6809b1229ab3a383d7fecebe9db4f40edfd3a5c7", func := "signalling/signallinglaw36.IntegrityAges", spec := "integrityAges", apart := false, narrowed := true }
def IntegrityAgesUptoSaid : Prop := integrityAgesUptoRow.holds Try.pinned (OpenSpec.upto integrityAgesSpec)

/-- 'signallinglaw36.IntegrityOrder', WHERE WHAT IT READS IS OF BULK AT MOST 1048576: true; the input reads as it did. -/
def integrityOrderUptoRow : OpenClaim := { program := "ytilipdcdnckagaa", sum := "8a81ab2843e16673387b7c0a6809b1229ab3a383d7fecebe9db4f40edfd3a5c7", func := "signalling/signallinglaw36.IntegrityOrder", spec := "integrityOrder", apart := false, narrowed := true }
def IntegrityOrderUptoSaid : Prop := integrityOrderUptoRow.holds Try.pinned (OpenSpec.upto integrityOrderSpec)

/-- 'signallinglaw36.IntegrityDistance', WHERE WHAT IT READS IS OF BULK AT MOST 1048576: true; the input reads as it did. -/
def integrityDistanceUptoRow : OpenClaim := { program := "ytilipdcdnckagaa", sum := "8a81ab2843e16673387b7c0a6809b1229ab3a383d7fecebe9db4f40edfd3a5c7", func := "signalling/signallinglaw36.IntegrityDistance", spec := "integrityDistance", apart := false, narrowed := true }
def IntegrityDistanceUptoSaid : Prop := integrityDistanceUptoRow.holds Try.pinned (OpenSpec.upto integrityDistanceSpec)

end Rows
end Go.Proofs.Ytilipdcdnckagaa
