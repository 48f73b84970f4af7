/- Modes: plain words, no program in sight. -/
import Derived.WalkKit
import Derived.Below
import Derived.Laws.OwnMore
import Derived.Deep.AppendLies
import Derived.Deep.Draws
namespace Go.Proofs.YtnjlfoncgkdkcaaDoor
open Go.RowKit

def tab : List Int := [0, 0, 0, 0, 0, 0, 0, 0,  0, 2, 0, 0, 3, 4, 5, 0,  0, 2, 6, 0, 3, 0, 5, 1,  0, 2, 6, 0, 0, 0, 0, 1,  0, 0, 6, 0, 0, 0, 0, 1,  0, 2, 6, 0, 0, 0, 0, 1,  0, 0, 0, 7, 0, 0, 0, 0,  0, 2, 0, 0, 3, 4, 0, 1]
def lim : List Int := [0, 0, 10000, 1100, 800, 2200, 0, 0]
/-- The mode after an event, 0 if there is none. -/
def nextF (m e : Int) : Int := if 1 ≤ m ∧ m ≤ 7 ∧ 1 ≤ e ∧ e ≤ 7 then tab.getD (m.toNat * 8 + e.toNat) 0 else 0
def limF (m : Int) : Int := if 1 ≤ m ∧ m ≤ 7 then lim.getD m.toNat 0 else 0
def Tabs (w : World) : Prop := 2 ≤ w.heap.size ∧ (∀ i, i < 64 → w.cell? ⟨0, i, none⟩ = some (.int .i64 (tab.getD i 0))) ∧ ∀ i, i < 8 → w.cell? ⟨1, i, none⟩ = some (.int .i64 (lim.getD i 0))
theorem Tabs.below {w w' : World} (h : Tabs w) (hb : Below w.heap.size w w') : Tabs w' :=
  ⟨Nat.le_trans h.1 hb.size, fun i hi => (hb.cell (p := ⟨0, i, none⟩) (by have := h.1; simp; omega)).trans (h.2.1 i hi), fun i hi => (hb.cell (p := ⟨1, i, none⟩) (by have := h.1; simp; omega)).trans (h.2.2 i hi)⟩
theorem Tabs.alloc {w : World} (h : Tabs w) (o : Obj) : Tabs (w.alloc o) := h.below ((Below.refl _ _).alloc (Nat.le_refl _) _)

theorem next_out (m e : Int) (h : ¬ (1 ≤ m ∧ m ≤ 7 ∧ 1 ≤ e ∧ e ≤ 7)) : nextF m e = 0 := by unfold nextF; rw [if_neg h]
theorem next_at (M E : Nat) (hm : 1 ≤ M ∧ M ≤ 7) (he : 1 ≤ E ∧ E ≤ 7) : nextF (M : Int) (E : Int) = tab.getD (M * 8 + E) 0 := by
  unfold nextF; rw [if_pos (by omega)]; simp
theorem lim_out (m : Int) (h : ¬ (1 ≤ m ∧ m ≤ 7)) : limF m = 0 := by unfold limF; rw [if_neg h]
theorem lim_at (M : Nat) (hm : 1 ≤ M ∧ M ≤ 7) : limF (M : Int) = lim.getD M 0 := by
  unfold limF; rw [if_pos (by omega)]; simp
theorem seven {m : Int} (h : 1 ≤ m ∧ m ≤ 7) : m = 1 ∨ m = 2 ∨ m = 3 ∨ m = 4 ∨ m = 5 ∨ m = 6 ∨ m = 7 := by omega
theorem next_range (m e : Int) : 0 ≤ nextF m e ∧ nextF m e ≤ 7 := by
  by_cases h : 1 ≤ m ∧ m ≤ 7 ∧ 1 ≤ e ∧ e ≤ 7
  · rcases seven ⟨h.1, h.2.1⟩ with rfl | rfl | rfl | rfl | rfl | rfl | rfl <;> rcases seven ⟨h.2.2.1, h.2.2.2⟩ with rfl | rfl | rfl | rfl | rfl | rfl | rfl <;> decide
  · rw [next_out m e h]; omega

/-- The events from 1 to j - 1 that a mode accepts. -/
def evTo (m : Int) : Nat → List Int
  | 0 => []
  | j + 1 => evTo m j ++ (if nextF m ((j : Int) + 1) ≠ 0 then [(j : Int) + 1] else [])
def evL (m : Int) : List Int := evTo m 7
theorem evTo_len (m : Int) : ∀ j, (evTo m j).length ≤ j
  | 0 => Nat.le_refl _
  | j + 1 => by have := evTo_len m j; simp only [evTo, List.length_append]; split <;> simp <;> omega
theorem ev_out (m : Int) (h : ¬ (1 ≤ m ∧ m ≤ 7)) : ∀ j, evTo m j = []
  | 0 => rfl
  | j + 1 => by rw [evTo, ev_out m h j, next_out m _ (by omega)]; rfl
def ascB (l : List Int) : Bool := (List.range l.length).all fun i => decide (1 ≤ l.getD i 0) && decide (l.getD i 0 ≤ 7) && (i == 0 || decide (l.getD (i - 1) 0 < l.getD i 0))
theorem ev_asc (m : Int) : ascB (evL m) = true := by
  by_cases h : 1 ≤ m ∧ m ≤ 7
  · rcases seven h with rfl | rfl | rfl | rfl | rfl | rfl | rfl <;> decide
  · unfold evL; rw [ev_out m h]; rfl
theorem asc_at {l : List Int} (h : ascB l = true) (k : Nat) (hk : k < l.length) : 1 ≤ l[k] ∧ l[k] ≤ 7 := by
  have := List.all_eq_true.1 h k (List.mem_range.2 hk)
  simp [List.getD_eq_getElem?_getD, List.getElem?_eq_getElem hk] at this
  omega
theorem asc_step {l : List Int} (h : ascB l = true) (k : Nat) (hk : k + 1 < l.length) : l[k] < l[k + 1] := by
  have := List.all_eq_true.1 h (k + 1) (List.mem_range.2 hk)
  simp [List.getD_eq_getElem?_getD, List.getElem?_eq_getElem hk, List.getElem?_eq_getElem (show k < l.length by omega)] at this
  omega
/-- An event is among those of a mode just if the mode accepts it. -/
theorem ev_mem (m e : Int) : (evL m).contains e = (nextF m e != 0) := by
  by_cases h : 1 ≤ m ∧ m ≤ 7
  · by_cases he : 1 ≤ e ∧ e ≤ 7
    · rcases seven h with rfl | rfl | rfl | rfl | rfl | rfl | rfl <;> rcases seven he with rfl | rfl | rfl | rfl | rfl | rfl | rfl <;> decide
    · rw [next_out m e (by omega)]
      cases hc : (evL m).contains e
      · rfl
      · rw [List.contains_iff_mem] at hc
        obtain ⟨k, hk, rfl⟩ := List.getElem_of_mem hc
        exact absurd (asc_at (ev_asc m) k hk) he
  · rw [next_out m e (by omega)]; unfold evL; rw [ev_out m h]; rfl

/-- A slice of ints. -/
def RdI (w : World) (B : Nat) (A : Option Addr) (l : List Int) : Prop :=
  0 < l.length → ∃ b off, A = some ⟨b, off, none⟩ ∧ b < B ∧ ∀ i z, l[i]? = some z → w.cell? ⟨b, off + i, none⟩ = some (.int .i64 z)
section
variable {w w' : World} {B B' : Nat} {A : Option Addr} {l : List Int}
theorem RdI.at_ {k : Nat} (h : RdI w B A l) (hk : k < l.length) : ∃ b off, A = some ⟨b, off, none⟩ ∧ b < B ∧ w.cell? ⟨b, off + k, none⟩ = some (.int .i64 l[k]) := by
  obtain ⟨b, off, e, hb, hc⟩ := h (by omega)
  exact ⟨b, off, e, hb, hc k _ (List.getElem?_eq_getElem hk)⟩
theorem RdI.cell_ {k b off : Nat} (h : RdI w B (some ⟨b, off, none⟩) l) (hk : k < l.length) : w.cell? ⟨b, off + k, none⟩ = some (.int .i64 l[k]) := by
  obtain ⟨b', off', e, _, hc⟩ := h.at_ hk
  simp at e
  obtain ⟨rfl, rfl⟩ := e
  exact hc
theorem RdI.keep (h : RdI w B A l) (hk : ∀ p : Addr, p.block < B → w'.cell? p = w.cell? p) : RdI w' B A l := fun hn => by
  obtain ⟨b, off, e, hb, hc⟩ := h hn
  exact ⟨b, off, e, hb, fun i p hp => (hk ⟨b, _, none⟩ hb).trans (hc i p hp)⟩
theorem RdI.more (h : RdI w B A l) (hB : B ≤ B') : RdI w B' A l := fun hn => by
  obtain ⟨b, off, e, hb, hc⟩ := h hn
  exact ⟨b, off, e, by omega, hc⟩
theorem RdI.below (h : RdI w B A l) (hb : Below B w w') : RdI w' B A l := h.keep fun _ hp => hb.cell hp
theorem RdI.at_world {W : World} (h : RdI w w.heap.size A l) (hB : Below w.heap.size w W) : RdI W W.heap.size A l := (h.below hB).more hB.size
theorem RdI.take (h : RdI w B A l) (k : Nat) : RdI w B A (l.take k) := fun hn => by
  obtain ⟨b, off, e, hb, hc⟩ := h (by simp at hn; omega)
  refine ⟨b, off, e, hb, fun i p hp => hc i p ?_⟩
  rw [List.getElem?_take] at hp
  split at hp
  · exact hp
  · cases hp
end
def IOwn (w : World) (base : Nat) (v : Value) (l : List Int) : Prop := w.ownsRow base 3 1 v l.length (l.map (Value.int .i64))
theorem IOwn.nil (w : World) (base : Nat) : IOwn w base (.slice none 0 0) [] := World.ownsRow_nil _ _ _ _
theorem IOwn.slice {w : World} {base : Nat} {v : Value} {l : List Int} (h : IOwn w base v l) : ∃ A c, v = .slice A l.length c := by
  rcases h.2 with ⟨rfl, h0⟩ | ⟨g, cap, cur, rfl, _⟩
  · exact ⟨none, 0, by rw [h0]⟩
  · exact ⟨_, _, rfl⟩
theorem IOwn.rd {w : World} {base : Nat} {A : Option Addr} {n c : Nat} {l : List Int} (h : IOwn w base (.slice A n c) l) : RdI w w.heap.size A l := fun hn => by
  obtain ⟨g, cap, hv, _, hlt⟩ := World.ownsRow.form h hn
  have hA : A = some ⟨g, 0, none⟩ := by injection hv
  have hn' : n = l.length := by injection hv
  subst hA hn'
  refine ⟨g, 0, rfl, hlt, fun i z hz => ?_⟩
  have hi : i < l.length := (List.getElem?_eq_some_iff.1 hz).1
  have := World.ownsRow.cellAt h i (by omega)
  rw [Nat.zero_add, this, List.getElem?_map, hz]; rfl
theorem carry {w W w1 : World} (hB : Below w.heap.size w W) (hb : Below W.heap.size W w1) : Below w.heap.size w w1 := hB.trans (hb.mono hB.size)
theorem ret_bool {a b : Bool} (h : a = b) : Ending.returned (.bool a) = .returned (.bool b) := by rw [h]
theorem ret_int {k : IntKind} {a b : Int} (h : a = b) : Ending.returned (.int k a) = .returned (.int k b) := by rw [h]
theorem take_snoc {α : Type} (l : List α) (k : Nat) (h : k < l.length) : l.take (k + 1) = l.take k ++ [l[k]] := List.take_succ_eq_append_getElem h
def InI (n : Int) : Prop := -9223372036854775808 ≤ n ∧ n ≤ 9223372036854775807
end Go.Proofs.YtnjlfoncgkdkcaaDoor
