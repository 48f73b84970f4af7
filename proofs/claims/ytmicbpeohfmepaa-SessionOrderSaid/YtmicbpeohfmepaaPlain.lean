/- Sessions: plain words, no program in sight. -/
import Derived.WalkKit
import Derived.Below
import Derived.Laws.OwnMore
import Derived.Deep.AppendLies
import Derived.Deep.Draws
namespace Go.Proofs.Ytmicbpeohfmepaa
open Go.RowKit

def InI (n : Int) : Prop := -9223372036854775808 ≤ n ∧ n ≤ 9223372036854775807
def recB (t n l : Int) : Bool := decide (t ≤ n) && decide (n - t ≤ l)
theorem u64_diff (s n l : Int) (hs : InI s) (hn : InI n) (h : s ≤ n) (hl : 0 ≤ l ∧ l ≤ 100) :
    decide (IntKind.u64.wrap (IntKind.u64.wrap n - IntKind.u64.wrap s) ≤ IntKind.u64.wrap l) = recB s n l := by
  unfold InI at hs hn
  unfold recB
  rw [Bool.eq_iff_iff]
  simp only [IntKind.wrap_u64, decide_eq_true_eq, Bool.and_eq_true]
  omega
theorem rec_no (s n l : Int) (h : ¬ s ≤ n) : false = recB s n l := by unfold recB; simp [h]
theorem ret_bool {a b : Bool} (h : a = b) : Ending.returned (.bool a) = .returned (.bool b) := by rw [h]
theorem ret_int {k : IntKind} {a b : Int} (h : a = b) : Ending.returned (.int k a) = .returned (.int k b) := by rw [h]
def outI (o : Int) : Int := if o < 1073741824 then o + 1 else o
/-- The error number of Take. -/
def errI (peer inn from_ seq time now : Int) : Int := if from_ ≠ peer then 1 else if recB time now 4 = false then 15 else if seq ≤ inn then 7 else 0
def tIn (peer inn from_ seq time now : Int) : Int := if errI peer inn from_ seq time now = 0 then seq else inn
def tHeard (peer inn heard from_ seq time now : Int) : Int := if errI peer inn from_ seq time now = 0 then now else heard

/-- A slice of structs of ints: its numbers, one after the other. -/
def RdF (w : World) (B : Nat) (A : Option Addr) (zs : List Int) : Prop :=
  0 < zs.length → ∃ b off, A = some ⟨b, off, none⟩ ∧ b < B ∧ ∀ i z, zs[i]? = some z → w.cell? ⟨b, off + i, none⟩ = some (.int .i64 z)
section
variable {w w' : World} {B B' : Nat} {A : Option Addr} {l : List Int}
theorem RdF.nil : RdF w B A [] := fun h => absurd h (by simp)
theorem RdF.at_ {k : Nat} (h : RdF w B A l) (hk : k < l.length) : ∃ b off, A = some ⟨b, off, none⟩ ∧ b < B ∧ w.cell? ⟨b, off + k, none⟩ = some (.int .i64 l[k]) := by
  obtain ⟨b, off, e, hb, hc⟩ := h (by omega)
  exact ⟨b, off, e, hb, hc k _ (List.getElem?_eq_getElem hk)⟩
theorem RdF.cell_ {k b off : Nat} (h : RdF w B (some ⟨b, off, none⟩) l) (hk : k < l.length) : w.cell? ⟨b, off + k, none⟩ = some (.int .i64 l[k]) := by
  obtain ⟨b', off', e, _, hc⟩ := h.at_ hk
  simp at e
  obtain ⟨rfl, rfl⟩ := e
  exact hc
theorem RdF.keep (h : RdF w B A l) (hk : ∀ p : Addr, p.block < B → w'.cell? p = w.cell? p) : RdF w' B A l := fun hn => by
  obtain ⟨b, off, e, hb, hc⟩ := h hn
  exact ⟨b, off, e, hb, fun i p hp => (hk ⟨b, _, none⟩ hb).trans (hc i p hp)⟩
theorem RdF.more (h : RdF w B A l) (hB : B ≤ B') : RdF w B' A l := fun hn => by
  obtain ⟨b, off, e, hb, hc⟩ := h hn
  exact ⟨b, off, e, by omega, hc⟩
theorem RdF.below (h : RdF w B A l) (hb : Below B w w') : RdF w' B A l := h.keep fun _ hp => hb.cell hp
theorem RdF.at_world {W : World} (h : RdF w w.heap.size A l) (hB : Below w.heap.size w W) : RdF W W.heap.size A l := (h.below hB).more hB.size
theorem RdF.add_ {b off : Nat} (h : RdF w B (some ⟨b, off, none⟩) l) : ∀ j u, (l.map (Value.int .i64))[j]? = some u → w.cell? ((⟨b, off, none⟩ : Addr).add j) = some u := by
  intro j u hu
  have hj : j < l.length := by have := (List.getElem?_eq_some_iff.1 hu).1; simpa using this
  have ha : (⟨b, off, none⟩ : Addr).add j = ⟨b, off + j, none⟩ := by unfold Addr.add; split <;> simp_all
  rw [ha, h.cell_ hj, ← hu]; simp [hj]
theorem RdF.of_own {base : Nat} {e : TypeId} {size n m c : Nat} (h : w.ownsRow base e size (.slice A m c) n (l.map (Value.int .i64))) : RdF w w.heap.size A l := fun hn => by
  have hl : l.length = n * size := by have := h.1; simpa using this
  have hn0 : 0 < n := by rcases Nat.eq_zero_or_pos n with e | e; (subst e; omega); exact e
  obtain ⟨g, cap, hv, _, hlt⟩ := h.form hn0
  have hA : A = some ⟨g, 0, none⟩ := by injection hv
  have hm : m = n := by injection hv
  subst hA hm
  refine ⟨g, 0, rfl, hlt, fun i z hz => ?_⟩
  have hi : i < l.length := (List.getElem?_eq_some_iff.1 hz).1
  rw [Nat.zero_add, h.cellAt i (by omega), List.getElem?_map, hz]; rfl
end
theorem carry {w W w1 : World} (hB : Below w.heap.size w W) (hb : Below W.heap.size W w1) : Below w.heap.size w w1 := hB.trans (hb.mono hB.size)
theorem bcell {W w1 : World} (hb : Below W.heap.size W w1) : (∀ b o, b < W.heap.size → w1.cell? ⟨b, o, none⟩ = W.cell? ⟨b, o, none⟩) ∧ (∀ b o, b < W.heap.size → w1.frozen? ⟨b, o, none⟩ = W.frozen? ⟨b, o, none⟩) :=
  ⟨fun b o h => hb.cell (p := ⟨b, o, none⟩) h, fun b o h => hb.frozen (p := ⟨b, o, none⟩) h⟩
def Blk (w : World) (g : Nat) (t : TypeId) (cs : Array Value) : Prop := w.heap[g]? = some (.cells cs t (0, 0))
section
variable {w w' : World} {g : Nat} {t : TypeId} {cs : Array Value}
theorem Blk.lt (h : Blk w g t cs) : g < w.heap.size := by
  rcases Nat.lt_or_ge g w.heap.size with hlt | hge
  · exact hlt
  · unfold Blk at h; rw [Array.getElem?_eq_none hge] at h; cases h
theorem Blk.cell (h : Blk w g t cs) (i : Nat) : w.cell? ⟨g, i, none⟩ = cs[i]? := cell_of_row w g i cs t (0, 0) h
theorem Blk.frozen (h : Blk w g t cs) (i : Nat) : w.frozen? ⟨g, i, none⟩ = false := by
  unfold Blk at h
  simp [World.frozen?, h]
theorem Blk.new (w : World) (t : TypeId) (cs : Array Value) : Blk (w.alloc (.cells cs t)) w.heap.size t cs := heap_alloc_new w _
theorem Blk.new_at (w : World) (t : TypeId) (cs : Array Value) (g : Nat) (hg : w.heap.size = g) : Blk (w.alloc (.cells cs t)) g t cs := by subst hg; exact Blk.new w t cs
theorem Blk.alloc (h : Blk w g t cs) (o : Obj) : Blk (w.alloc o) g t cs := (Below.heap_alloc w o g h.lt).trans h
theorem Blk.drew (h : Blk w g t cs) : Blk w.drew g t cs := h
theorem Blk.set_ (h : Blk w g t cs) (i : Nat) (u : Value) : Blk (w.setCell ⟨g, i, none⟩ u) g t (cs.setIfInBounds i u) := by
  unfold Blk at h ⊢
  simp [World.setCell, Array.getElem?_modify, h]
theorem Blk.far (h : Blk w g t cs) {p : Addr} (hp : g ≠ p.block) (u : Value) : Blk (w.setCell p u) g t cs := (Below.heap_setCell w p u g hp).trans h
theorem Blk.below {B : Nat} (h : Blk w g t cs) (hb : Below B w w') (hg : g < B) : Blk w' g t cs := (hb.block g hg).trans h
theorem Blk.call (h : Blk w g t cs) (hb : Below w.heap.size w w') : Blk w' g t cs := h.below hb h.lt
theorem Blk.grown {r : Option Nat} (h : Blk w g t cs) (hb : w.grownBy w' r) (hg : some g ≠ r) : Blk w' g t cs := (hb.block g h.lt hg).trans h
end
end Go.Proofs.Ytmicbpeohfmepaa
