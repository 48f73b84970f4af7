/- Chapter 35: what the argument []int is as a value. -/
import Derived.Test.YtnjlfoncgkdkcaaDoorChecked
import Derived.Test.YtnjlfoncgkdkcaaDoorPlain
import Derived.ProofKit
import Derived.Deep.Slices
import Derived.ChangeSlices
import Derived.Laws.Rows
namespace Go.Proofs.YtnjlfoncgkdkcaaDoor
open Go.ChangeShapes Go.WideShapes Go.RowKit Go.Deep

theorem cells3 : Tryd.prog.cellsOf 3 = 1 := by kernel_rfl
section
variable {H : Type} {enc : TypeId × Value → H} {w : World} {base : Nat} {held : Bool}
theorem exists_list {α : Type} (P : Nat → α → Prop) : ∀ n, (∀ i, i < n → ∃ p, P i p) → ∃ l : List α, l.length = n ∧ ∀ i p, l[i]? = some p → P i p
  | 0, _ => ⟨[], rfl, by simp⟩
  | n + 1, h => by
    obtain ⟨l, hl, hp⟩ := exists_list P n (fun i hi => h i (by omega))
    obtain ⟨q, hq⟩ := h n (by omega)
    refine ⟨l ++ [q], by simp [hl], fun i p hi => ?_⟩
    rw [List.getElem?_append] at hi
    split at hi
    · exact hp i p hi
    · rename_i hge
      have hi' : i = n := by
        have := (List.getElem?_eq_some_iff.1 hi).1
        simp at this
        omega
      subst hi'
      simp [hl] at hi
      subst hi
      exact hq

theorem open_intsR {b0 : Nat} {r : Reach} {v : Value} {d : DataW H} {p : List MemPlace} (hv : Value.okWide Tryd.prog w r b0 26 v) (h : DataW.Trod enc Tryd.prog w base (fun _ => true) held 26 v d p) :
    ∃ (A : Option Addr) (c : Nat) (l : List Int), v = .slice A l.length c ∧ l.length ≤ maxLen ∧ l.length ≤ c ∧ RdI w w.heap.size A l := by
  obtain ⟨A, len, cap, rfl⟩ := okWide_slice Tryd.underlying26 hv
  obtain ⟨fuel, hf⟩ := h
  rcases open_slice Tryd.underlying26 hf with ⟨hcs, _⟩ | ⟨a, len', cap', m, n, D, Pl, hcs, _, hl, hm, hmm, _, hi⟩
  · simp [Value.cells] at hcs
    obtain ⟨rfl, rfl, rfl⟩ := hcs
    exact ⟨none, 0, [], rfl, by simp, by simp, fun h => absurd h (by simp)⟩
  · simp [Value.cells] at hcs
    obtain ⟨rfl, rfl, rfl⟩ := hcs
    simp only [if_true] at hmm
    subst hmm
    obtain ⟨l, hll, hP⟩ := exists_list (fun i (z : Int) => w.cell? (a.add i) = some (.int .i64 z)) len (fun i hi' => by
      obtain ⟨cs', hc, ht⟩ := hi i (by omega)
      rw [cells3, Nat.mul_one] at hc
      obtain ⟨z, hz, _, _⟩ := DataW.trod_int Tryd.underlying3 ht
      obtain ⟨_, _, hat⟩ := World.cells?_some hc
      have := hat 0 (by omega)
      rw [hz, Go.Deep.add_add] at this
      exact ⟨z, by simpa using this⟩)
    subst hll
    refine ⟨some a, _, l, rfl, by omega, by omega, fun hn => ?_⟩
    have c0 := hP 0 l[0] (List.getElem?_eq_getElem hn)
    have hsp := World.cell?_spot c0
    have hbl := block_lt_of_cell c0
    obtain ⟨b, off, sp⟩ := a
    simp [Addr.add] at hsp hbl
    subst hsp
    have ha : ∀ j, (⟨b, off, none⟩ : Addr).add j = ⟨b, off + j, none⟩ := fun j => by unfold Addr.add; split <;> simp_all
    exact ⟨b, off, rfl, hbl, fun i z hz => by rw [← ha]; exact hP i z hz⟩
end
end Go.Proofs.YtnjlfoncgkdkcaaDoor
