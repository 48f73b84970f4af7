/- Chapter 39: what the arguments []Packet and []int are as values. -/
import Derived.Test.YtgpbfaelhfpbfaaChecked
import Derived.Test.YtgpbfaelhfpbfaaAid
import Derived.Test.YtgpbfaelhfpbfaaRef
import Derived.Deep.Slices
import Derived.ChangeSlices
namespace Go.Proofs.Ytgpbfaelhfpbfaa
open Go.ChangeShapes Go.WideShapes Go.RowKit Go.Deep

theorem cells3 : Try.prog.cellsOf 3 = 1 := by kernel_rfl
theorem cells9 : Try.prog.cellsOf 9 = 1 := by kernel_rfl
theorem cells28 : Try.prog.cellsOf 28 = 4 := by kernel_rfl

section
variable {H : Type} {enc : TypeId × Value → H} {w : World} {base : Nat} {spare : Nat → Bool} {held : Bool}
/-- The cells of a packet. -/
theorem pkt_of {n : Nat} {cs : List Value} {x : DataW H × List MemPlace} (h : DataW.trod enc Try.prog w base spare held n 28 cs = some x) : ∃ p : Pkt, p.Ok ∧ cs = p.cs := by
  obtain ⟨hl, m, hf⟩ := fields_of Try.underlying28 h
  obtain ⟨a0, a1, a2, a3, rfl⟩ := list4 (hl.trans cells28)
  obtain ⟨x0, h0, w0⟩ := field_int hf 0 rfl Try.underlying3 cells3
  obtain ⟨x1, h1, w1⟩ := field_int hf 1 rfl Try.underlying3 cells3
  obtain ⟨x2, h2, w2⟩ := field_int hf 2 rfl Try.underlying3 cells3
  obtain ⟨x3, h3, w3⟩ := field_string hf 3 rfl Try.underlying9 cells9
  simp at h0 h1 h2 h3
  subst h0 h1 h2 h3
  exact ⟨⟨x0, x1, x2, x3⟩, ⟨wf_i64 w0, wf_i64 w1, wf_i64 w2, w3⟩, rfl⟩

theorem exists_list {α : Type} (P : Nat → α → Prop) : ∀ n, (∀ i, i < n → ∃ p, P i p) → ∃ l : List α, l.length = n ∧ ∀ i p, l[i]? = some p → P i p
  | 0, _ => ⟨[], rfl, by simp⟩
  | n + 1, h => by
    obtain ⟨l, hl, hp⟩ := exists_list P n (fun i hi => h i (by omega))
    obtain ⟨q, hq⟩ := h n (by omega)
    refine ⟨l ++ [q], by simp [hl], fun i p hi => ?_⟩
    rw [List.getElem?_append] at hi
    split at hi
    · exact hp i p hi
    · rename_i hge
      have hi' : i = n := by
        have := (List.getElem?_eq_some_iff.1 hi).1
        simp at this
        omega
      subst hi'
      simp [hl] at hi
      subst hi
      exact hq

theorem open_packets {b0 : Nat} {r : Reach} {v : Value} {d : DataW H} {p : List MemPlace} (hv : Value.okWide Try.prog w r b0 22 v) (h : DataW.Trod enc Try.prog w base (fun _ => true) held 22 v d p) :
    ∃ (A : Option Addr) (c : Nat) (l : List Pkt), v = .slice A l.length c ∧ l.length ≤ maxLen ∧ (∀ p ∈ l, p.Ok) ∧ Rd w w.heap.size A l := by
  obtain ⟨A, len, cap, rfl⟩ := okWide_slice Try.underlying22 hv
  obtain ⟨fuel, hf⟩ := h
  rcases open_slice Try.underlying22 hf with ⟨hcs, _⟩ | ⟨a, len', cap', m, n, D, Pl, hcs, _, hl, hm, hmm, _, hi⟩
  · simp [Value.cells] at hcs
    obtain ⟨rfl, rfl, rfl⟩ := hcs
    exact ⟨none, 0, [], rfl, by simp, by simp, Rd.none_⟩
  · simp [Value.cells] at hcs
    obtain ⟨rfl, rfl, rfl⟩ := hcs
    simp only [if_true] at hmm
    subst hmm
    obtain ⟨l, hll, hP⟩ := exists_list (fun i (q : Pkt) => q.Ok ∧ w.cells? base (a.add (i * 4)) 4 = some q.cs) len (fun i hi' => by
      obtain ⟨cs', hc, ht⟩ := hi i (by omega)
      rw [cells28] at hc
      obtain ⟨q, hq, rfl⟩ := pkt_of ht
      exact ⟨q, hq, hc⟩)
    subst hll
    refine ⟨some a, _, l, rfl, by omega, fun q hq => ?_, fun hn => ?_⟩
    · obtain ⟨i, hi'⟩ := List.getElem?_of_mem hq
      exact (hP i q hi').1
    · have cell : ∀ i q, l[i]? = some q → ∀ j, j < 4 → w.cell? (a.add (i * 4 + j)) = q.cs[j]? := fun i q hq j hj => by
        obtain ⟨_, _, hat⟩ := World.cells?_some (hP i q hq).2
        rw [← Go.Deep.add_add]
        exact hat j hj
      have c0 := cell 0 l[0] (List.getElem?_eq_getElem hn) 0 (by omega)
      simp [Pkt.cs] at c0
      have hsp := World.cell?_spot c0
      have hbl := block_lt_of_cell c0
      obtain ⟨b, off, sp⟩ := a
      simp [Addr.add] at hsp hbl
      subst hsp
      refine ⟨b, off, rfl, hbl, fun i q hq => ?_⟩
      have ha : ∀ j, (⟨b, off, none⟩ : Addr).add j = ⟨b, off + j, none⟩ := fun j => by unfold Addr.add; split <;> simp_all
      have e0 := cell i q hq 0 (by omega)
      have e1 := cell i q hq 1 (by omega)
      have e2 := cell i q hq 2 (by omega)
      have e3 := cell i q hq 3 (by omega)
      rw [ha] at e0 e1 e2 e3
      simp [Pkt.cs] at e0 e1 e2 e3
      exact ⟨e0, by rw [Nat.add_assoc]; exact e1, by rw [Nat.add_assoc]; exact e2, by rw [Nat.add_assoc]; exact e3⟩

theorem open_intsR {b0 : Nat} {r : Reach} {v : Value} {d : DataW H} {p : List MemPlace} (hv : Value.okWide Try.prog w r b0 32 v) (h : DataW.Trod enc Try.prog w base (fun _ => true) held 32 v d p) :
    ∃ (A : Option Addr) (c : Nat) (l : List Int), v = .slice A l.length c ∧ l.length ≤ maxLen ∧ RdI w w.heap.size A l := by
  obtain ⟨A, len, cap, rfl⟩ := okWide_slice Try.underlying32 hv
  obtain ⟨fuel, hf⟩ := h
  rcases open_slice Try.underlying32 hf with ⟨hcs, _⟩ | ⟨a, len', cap', m, n, D, Pl, hcs, _, hl, hm, hmm, _, hi⟩
  · simp [Value.cells] at hcs
    obtain ⟨rfl, rfl, rfl⟩ := hcs
    exact ⟨none, 0, [], rfl, by simp, fun h => absurd h (by simp)⟩
  · simp [Value.cells] at hcs
    obtain ⟨rfl, rfl, rfl⟩ := hcs
    simp only [if_true] at hmm
    subst hmm
    obtain ⟨l, hll, hP⟩ := exists_list (fun i (z : Int) => w.cell? (a.add i) = some (.int .i64 z)) len (fun i hi' => by
      obtain ⟨cs', hc, ht⟩ := hi i (by omega)
      rw [cells3, Nat.mul_one] at hc
      obtain ⟨z, hz, _, _⟩ := DataW.trod_int Try.underlying3 ht
      obtain ⟨_, _, hat⟩ := World.cells?_some hc
      have := hat 0 (by omega)
      rw [hz, Go.Deep.add_add] at this
      exact ⟨z, by simpa using this⟩)
    subst hll
    refine ⟨some a, _, l, rfl, by omega, fun hn => ?_⟩
    have c0 := hP 0 l[0] (List.getElem?_eq_getElem hn)
    have hsp := World.cell?_spot c0
    have hbl := block_lt_of_cell c0
    obtain ⟨b, off, sp⟩ := a
    simp [Addr.add] at hsp hbl
    subst hsp
    have ha : ∀ j, (⟨b, off, none⟩ : Addr).add j = ⟨b, off + j, none⟩ := fun j => by unfold Addr.add; split <;> simp_all
    exact ⟨b, off, rfl, hbl, fun i z hz => by rw [← ha]; exact hP i z hz⟩
end
end Go.Proofs.Ytgpbfaelhfpbfaa
