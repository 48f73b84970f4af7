/- Chapter 39: a slice that came in is no longer than its capacity. -/
import Derived.Test.YtgpbfaelhfpbfaaOpen
namespace Go.Proofs.Ytgpbfaelhfpbfaa
open Go.ChangeShapes Go.WideShapes Go.RowKit Go.Deep
theorem cap_of {H : Type} {enc : TypeId × Value → H} {w : World} {base : Nat} {held : Bool} {v : Value} {d : DataW H} {p : List MemPlace} (h : DataW.Trod enc Try.prog w base (fun _ => true) held 22 v d p) : ∀ A n c, v = .slice A n c → n ≤ c := by
  rintro A n c rfl
  obtain ⟨fuel, hf⟩ := h
  rcases open_slice Try.underlying22 hf with ⟨hcs, _⟩ | ⟨a, len', cap', m, n', D, Pl, hcs, _, hl, _⟩
  · simp [Value.cells] at hcs
    omega
  · simp [Value.cells] at hcs
    omega
end Go.Proofs.Ytgpbfaelhfpbfaa
