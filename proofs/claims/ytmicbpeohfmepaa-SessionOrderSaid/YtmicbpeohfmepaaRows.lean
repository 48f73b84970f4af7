/-
  No cell of these rows narrows 'for every input' (looked for: loops, veiled, ifaces, maps, wideKeys, modest, calm, conditions, laid).
  DERIVED. THE GIVEN ROWS OF THIS SEAT. 5 by the template 'for every input the law returns true; each argument reads behind the call as it read before'; 0 by the template 'total and deterministic' (their statements: YtmicbpeohfmepaaTotals.lean).
  GIVEN WITH THE SEED: the statements are not yours to turn. If you find one false, say at which input.
  Laid BY PROGRAM, IN A SANDBOX (cutbox-rows.mjs): the forced cells as the released guide's own fill.sh prints them over the translation 0cd8a252fa729986… (all of the seat's roots in one cut). By AI agents, Wed Nov 11 2026. No macro, syntax, notation, axiom, sorry.
-/
import Derived.Test.YtmicbpeohfmepaaChecked
import GoSem.Claim
import GoSem.ClaimJoined
import GoSem.ClaimMapViews
import Derived.JoinedTies
import Derived.KernelRfl
namespace Go.Proofs.Ytmicbpeohfmepaa
/- THE CELL 'sum', in the pinned program and in every row, IS THE sha256 OF THE DUMP (.gsa) THAT YtmicbpeohfmepaaProg.lean LOADS. Nothing in Lean hashes anything: it is a label: what it is worth is what the hold of that sum in a sandbox is worth. -/
noncomputable def Try.pinned : Pinned := { name := "ytmicbpeohfmepaa", sum := "0cd8a252fa729986eab8ee51694718f87765b649507282cdba10ebbe3899e4dc", checked := Try.checked }
namespace Rows
def none {H : Type} : Left H := { results := [], args := [] }

/-- 'signallinglaw38.SessionSends': WHATEVER THE INPUT: true; the input reads as it did. -/
def sessionSendsSpec : ChangeSpec := { name := "sessionSends", fn := fun _ => fun
  | [d1, d2, d3] => { results := [.lit (.bool true)], args := [d1, d2, d3] }
  | _ => none }
def sessionSendsRow : OpenClaim := { program := "ytmicbpeohfmepaa", sum := "0cd8a252fa729986eab8ee51694718f87765b649507282cdba10ebbe3899e4dc", func := "signalling/signallinglaw38.SessionSends", spec := "sessionSends", apart := false }
def SessionSendsSaid : Prop := sessionSendsRow.holds Try.pinned (OpenSpec.ofChange sessionSendsSpec)

/-- ITS FALSE NEIGHBOUR: 'it returns false'. Refute it at one input. -/
def sessionSendsWrong : ChangeSpec := { name := "sessionSends", fn := fun _ => fun
  | [d1, d2, d3] => { results := [.lit (.bool false)], args := [d1, d2, d3] }
  | _ => none }
def SessionSendsWrongFalsely : Prop := sessionSendsRow.holds Try.pinned (OpenSpec.ofChange sessionSendsWrong)

/-- 'signallinglaw38.SessionTakes': WHATEVER THE INPUT: true; the input reads as it did. -/
def sessionTakesSpec : ChangeSpec := { name := "sessionTakes", fn := fun _ => fun
  | [d1, d2, d3] => { results := [.lit (.bool true)], args := [d1, d2, d3] }
  | _ => none }
def sessionTakesRow : OpenClaim := { program := "ytmicbpeohfmepaa", sum := "0cd8a252fa729986eab8ee51694718f87765b649507282cdba10ebbe3899e4dc", func := "signalling/signallinglaw38.SessionTakes", spec := "sessionTakes", apart := false }
def SessionTakesSaid : Prop := sessionTakesRow.holds Try.pinned (OpenSpec.ofChange sessionTakesSpec)

/-- ITS FALSE NEIGHBOUR: 'it returns false'. Refute it at one input. -/
def sessionTakesWrong : ChangeSpec := { name := "sessionTakes", fn := fun _ => fun
  | [d1, d2, d3] => { results := [.lit (.bool false)], args := [d1, d2, d3] }
  | _ => none }
def SessionTakesWrongFalsely : Prop := sessionTakesRow.holds Try.pinned (OpenSpec.ofChange sessionTakesWrong)

/-- 'signallinglaw38.SessionAlive': WHATEVER THE INPUT: true; the input reads as it did. -/
def sessionAliveSpec : ChangeSpec := { name := "sessionAlive", fn := fun _ => fun
  | [d1, d2, d3] => { results := [.lit (.bool true)], args := [d1, d2, d3] }
  | _ => none }
def sessionAliveRow : OpenClaim := { program := "ytmicbpeohfmepaa", sum := "0cd8a252fa729986eab8ee51694718f87765b649507282cdba10ebbe3899e4dc", func := "signalling/signallinglaw38.SessionAlive", spec := "sessionAlive", apart := false }
def SessionAliveSaid : Prop := sessionAliveRow.holds Try.pinned (OpenSpec.ofChange sessionAliveSpec)

/-- ITS FALSE NEIGHBOUR: 'it returns false'. Refute it at one input. -/
def sessionAliveWrong : ChangeSpec := { name := "sessionAlive", fn := fun _ => fun
  | [d1, d2, d3] => { results := [.lit (.bool false)], args := [d1, d2, d3] }
  | _ => none }
def SessionAliveWrongFalsely : Prop := sessionAliveRow.holds Try.pinned (OpenSpec.ofChange sessionAliveWrong)

/-- 'signallinglaw38.SessionOrder': WHATEVER THE INPUT: true; the input reads as it did. -/
def sessionOrderSpec : ChangeSpec := { name := "sessionOrder", fn := fun _ => fun
  | [d1, d2, d3, d4, d5] => { results := [.lit (.bool true)], args := [d1, d2, d3, d4, d5] }
  | _ => none }
def sessionOrderRow : OpenClaim := { program := "ytmicbpeohfmepaa", sum := "0cd8a252fa729986eab8ee51694718f87765b649507282cdba10ebbe3899e4dc", func := "signalling/signallinglaw38.SessionOrder", spec := "sessionOrder", apart := false }
def SessionOrderSaid : Prop := sessionOrderRow.holds Try.pinned (OpenSpec.ofChange sessionOrderSpec)

/-- ITS FALSE NEIGHBOUR: 'it returns false'. Refute it at one input. -/
def sessionOrderWrong : ChangeSpec := { name := "sessionOrder", fn := fun _ => fun
  | [d1, d2, d3, d4, d5] => { results := [.lit (.bool false)], args := [d1, d2, d3, d4, d5] }
  | _ => none }
def SessionOrderWrongFalsely : Prop := sessionOrderRow.holds Try.pinned (OpenSpec.ofChange sessionOrderWrong)

/-- 'signallinglaw38.SessionStays': WHATEVER THE INPUT: true; the input reads as it did. -/
def sessionStaysSpec : ChangeSpec := { name := "sessionStays", fn := fun _ => fun
  | [d1, d2, d3] => { results := [.lit (.bool true)], args := [d1, d2, d3] }
  | _ => none }
def sessionStaysRow : OpenClaim := { program := "ytmicbpeohfmepaa", sum := "0cd8a252fa729986eab8ee51694718f87765b649507282cdba10ebbe3899e4dc", func := "signalling/signallinglaw38.SessionStays", spec := "sessionStays", apart := false }
def SessionStaysSaid : Prop := sessionStaysRow.holds Try.pinned (OpenSpec.ofChange sessionStaysSpec)

/-- ITS FALSE NEIGHBOUR: 'it returns false'. Refute it at one input. -/
def sessionStaysWrong : ChangeSpec := { name := "sessionStays", fn := fun _ => fun
  | [d1, d2, d3] => { results := [.lit (.bool false)], args := [d1, d2, d3] }
  | _ => none }
def SessionStaysWrongFalsely : Prop := sessionStaysRow.holds Try.pinned (OpenSpec.ofChange sessionStaysWrong)

/- THE SECOND FORM. 'bulk': how many values and letters a reading holds, each counted each time it is reached (what is shared counts as often as it is met; a slice's spare places count too). A statement '..UptoSaid' is the law's where the arguments, and the package variables that the reading takes, are together of bulk at most 1048576: NARROWER than '..Said'. Prove '..Said' where nothing that the law and all that it calls make is longer than what came in: it says more and counts as full. Else prove '..UptoSaid'. A law counts once. -/
mutual
def uptoBulk {H : Type} : DataW H → Nat
  | .lit (.string bytes) => bytes.length + 1
  | .lit _ => 1
  | .nil => 1
  | .ptr d => uptoBulk d + 1
  | .slice elems spare => uptoBulkAll elems + uptoBulkAll spare + 1
  | .agg parts => uptoBulkAll parts + 1
  | .iface _ d => uptoBulk d + 1
  | .map entries => uptoBulkEntries entries + 1
  | .held _ => 1
def uptoBulkAll {H : Type} : List (DataW H) → Nat
  | [] => 0
  | d :: r => uptoBulk d + uptoBulkAll r
def uptoBulkEntries {H : Type} : List (Lit × DataW H) → Nat
  | [] => 0
  | x :: r => uptoBulkEntry x + uptoBulkEntries r
def uptoBulkEntry {H : Type} : Lit × DataW H → Nat
  | (.string bytes, d) => bytes.length + uptoBulk d + 1
  | (_, d) => uptoBulk d + 1
 end
def uptoSmall : (H : Type) → List (DataW H) → Bool := fun _ ds => decide (uptoBulkAll ds ≤ 1048576)
def OpenSpec.upto (s : _root_.Go.ChangeSpec) : _root_.Go.OpenSpec := { _root_.Go.OpenSpec.ofChange s with cond := some uptoSmall }

/-- 'signallinglaw38.SessionSends', WHERE WHAT IT READS IS OF BULK AT MOST 1048576: true; the input reads as it did. -/
def sessionSendsUptoRow : OpenClaim := { program := "ytmicbpeohfmepaa", sum := "0cd8a252fa729986eab8ee51694718f87765b649507282cdba10ebbe3899e4dc", func := "signalling/signallinglaw38.SessionSends", spec := "sessionSends", apart := false, narrowed := true }
def SessionSendsUptoSaid : Prop := sessionSendsUptoRow.holds Try.pinned (OpenSpec.upto sessionSendsSpec)

/-- 'signallinglaw38.SessionTakes', WHERE WHAT IT READS IS OF BULK AT MOST 1048576: true; the input reads as it did. -/
def sessionTakesUptoRow : OpenClaim := { program := "ytmicbpeohfmepaa", sum := "0cd8a252fa729986eab8ee51694718f87765b649507282cdba10ebbe3899e4dc", func := "signalling/signallinglaw38.SessionTakes", spec := "sessionTakes", apart := false, narrowed := true }
def SessionTakesUptoSaid : Prop := sessionTakesUptoRow.holds Try.pinned (OpenSpec.upto sessionTakesSpec)

/-- 'signallinglaw38.SessionAlive', WHERE WHAT IT READS IS OF BULK AT MOST 1048576: true; the input reads as it did. -/
def sessionAliveUptoRow : OpenClaim := { program := "ytmicbpeohfmepaa", sum := "0cd8a252fa729986eab8ee51694718f87765b649507282cdba10ebbe3899e4dc", func := "signalling/signallinglaw38.SessionAlive", spec := "sessionAlive", apart := false, narrowed := true }
def SessionAliveUptoSaid : Prop := sessionAliveUptoRow.holds Try.pinned (OpenSpec.upto sessionAliveSpec)

/-- 'signallinglaw38.SessionOrder', WHERE WHAT IT READS IS OF BULK AT MOST 1048576: true; the input reads as it did. -/
def sessionOrderUptoRow : OpenClaim := { program := "ytmicbpeohfmepaa", sum := "0cd8a252fa729986eab8ee51694718f87765b649507282cdba10ebbe3899e4dc", func := "signalling/signallinglaw38.SessionOrder", spec := "sessionOrder", apart := false, narrowed := true }
def SessionOrderUptoSaid : Prop := sessionOrderUptoRow.holds Try.pinned (OpenSpec.upto sessionOrderSpec)

/-- 'signallinglaw38.SessionStays', WHERE WHAT IT READS IS OF BULK AT MOST 1048576: true; the input reads as it did. -/
def sessionStaysUptoRow : OpenClaim := { program := "ytmicbpeohfmepaa", sum := "0cd8a252fa729986eab8ee51694718f87765b649507282cdba10ebbe3899e4dc", func := "signalling/signallinglaw38.SessionStays", spec := "sessionStays", apart := false, narrowed := true }
def SessionStaysUptoSaid : Prop := sessionStaysUptoRow.holds Try.pinned (OpenSpec.upto sessionStaysSpec)

end Rows
end Go.Proofs.Ytmicbpeohfmepaa
