/- Chapter 38: what the lists of times and of arrivals are as values. -/
import Derived.Test.YtmicbpeohfmepaaOpen
namespace Go.Proofs.Ytmicbpeohfmepaa
open Go.ChangeShapes Go.WideShapes Go.RowKit Go.Deep
section
variable {H : Type} {enc : TypeId × Value → H} {w : World} {base : Nat} {held : Bool} {b0 : Nat} {r : Reach} {v : Value} {d : DataW H} {p : List MemPlace}
theorem open_lists {t e : TypeId} {size : Nat} (hs : 0 < size) (ht : Try.prog.underlying t = some (.slice e)) (he : Try.prog.cellsOf e = size) (hi : AllInts enc w base held e size)
    (hv : Value.okWide Try.prog w r b0 t v) (h : DataW.Trod enc Try.prog w base (fun _ => true) held t v d p) :
    ∃ (A : Option Addr) (k c : Nat) (zs : List Int), v = .slice A k c ∧ zs.length = k * size ∧ (∀ z ∈ zs, InI z) ∧ RdF w w.heap.size A zs := by
  obtain ⟨A, len, cap, rfl⟩ := okWide_slice ht hv
  obtain ⟨fuel, hf⟩ := h
  obtain ⟨A', k, c, zs, hcs, _, h1, h2, h3⟩ := slice_ints hs ht he hi hf
  simp [Value.cells] at hcs
  obtain ⟨rfl, rfl, rfl⟩ := hcs
  exact ⟨_, _, _, zs, rfl, h1, h2, h3⟩
theorem open_times (hv : Value.okWide Try.prog w r b0 43 v) (h : DataW.Trod enc Try.prog w base (fun _ => true) held 43 v d p) :
    ∃ (A : Option Addr) (k c : Nat) (zs : List Int), v = .slice A k c ∧ zs.length = k ∧ (∀ z ∈ zs, InI z) ∧ RdF w w.heap.size A zs := by
  obtain ⟨A, k, c, zs, h0, h1, h2, h3⟩ := open_lists (by omega) Try.underlying43 cells3 ints3 hv h
  exact ⟨A, k, c, zs, h0, by omega, h2, h3⟩
theorem open_arrivals (hv : Value.okWide Try.prog w r b0 44 v) (h : DataW.Trod enc Try.prog w base (fun _ => true) held 44 v d p) :
    ∃ (A : Option Addr) (k c : Nat) (zs : List Int), v = .slice A k c ∧ zs.length = k * 2 ∧ (∀ z ∈ zs, InI z) ∧ RdF w w.heap.size A zs :=
  open_lists (by omega) Try.underlying44 cells47 ints47 hv h
end
end Go.Proofs.Ytmicbpeohfmepaa
