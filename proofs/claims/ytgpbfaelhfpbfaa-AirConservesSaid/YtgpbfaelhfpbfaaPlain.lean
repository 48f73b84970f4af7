/- Packets, lists of packets as they lie in memory: plain words, no program in sight. -/
import Derived.WalkKit
import Derived.Below
import Derived.Laws.OwnMore
import Derived.Deep.AppendLies
import Derived.Deep.Draws
namespace Go.Proofs.Ytgpbfaelhfpbfaa
open Go.RowKit

structure Pkt where
  f : Int
  t : Int
  a : Int
  d : ByteArray

def InI (n : Int) : Prop := -9223372036854775808 ≤ n ∧ n ≤ 9223372036854775807
/-- The packet's numbers are int's, its text has a length. -/
def Pkt.Ok (p : Pkt) : Prop := InI p.f ∧ InI p.t ∧ InI p.a ∧ p.d.size ≤ maxLen
def Pkt.cs (p : Pkt) : List Value := [.int .i64 p.f, .int .i64 p.t, .int .i64 p.a, .string p.d]
def Pkt.agg (p : Pkt) : Value := .agg #[.int .i64 p.f, .int .i64 p.t, .int .i64 p.a, .string p.d]
/-- The cells of a list of packets. -/
def row (l : List Pkt) : List Value := l.flatMap Pkt.cs
theorem row_nil : row [] = [] := rfl
theorem row_append (l m : List Pkt) : row (l ++ m) = row l ++ row m := by simp [row]
theorem row_one (p : Pkt) : row [p] = p.cs := by simp [row]
theorem row_length (l : List Pkt) : (row l).length = l.length * 4 := by
  induction l with
  | nil => rfl
  | cons p l ih => rw [show row (p :: l) = p.cs ++ row l from rfl, List.length_append, ih]; simp [Pkt.cs]; omega
theorem row_at (l : List Pkt) (k : Nat) (p : Pkt) (h : l[k]? = some p) (j : Nat) (hj : j < 4) : (row l)[k * 4 + j]? = p.cs[j]? := by
  induction l generalizing k with
  | nil => simp at h
  | cons q l ih =>
    rw [show row (q :: l) = q.cs ++ row l from rfl]
    cases k with
    | zero =>
      simp at h
      subst h
      rw [List.getElem?_append_left (by simp [Pkt.cs]; omega)]
      simp
    | succ k =>
      rw [List.getElem?_append_right (by simp [Pkt.cs]; omega), ← ih k (by simpa using h)]
      congr 1
      simp [Pkt.cs]; omega
theorem row_oneCell (l : List Pkt) : ∀ u ∈ row l, u.oneCell' = true := by
  intro u hu
  obtain ⟨p, _, hp⟩ := List.mem_flatMap.1 hu
  simp [Pkt.cs] at hp
  rcases hp with rfl | rfl | rfl | rfl <;> rfl
theorem cs_length (p : Pkt) : p.cs.length = 4 := rfl
theorem row_take (l : List Pkt) (k : Nat) : row (l.take k) = (row l).take (k * 4) := by
  induction l generalizing k with
  | nil => simp [row]
  | cons p l ih =>
    cases k with
    | zero => simp [row]
    | succ k =>
      have e1 : p.cs.take ((k + 1) * 4) = p.cs := List.take_of_length_le (by rw [cs_length]; omega)
      have e2 : (k + 1) * 4 - p.cs.length = k * 4 := by rw [cs_length]; omega
      rw [List.take_succ_cons, show row (p :: l.take k) = p.cs ++ row (l.take k) from rfl, show row (p :: l) = p.cs ++ row l from rfl, ih, List.take_append, e1, e2]
theorem row_drop (l : List Pkt) (k : Nat) : row (l.drop k) = (row l).drop (k * 4) := by
  induction l generalizing k with
  | nil => simp [row]
  | cons p l ih =>
    cases k with
    | zero => simp
    | succ k =>
      have e1 : p.cs.drop ((k + 1) * 4) = [] := List.drop_of_length_le (by rw [cs_length]; omega)
      have e2 : (k + 1) * 4 - p.cs.length = k * 4 := by rw [cs_length]; omega
      rw [List.drop_succ_cons, show row (p :: l) = p.cs ++ row l from rfl, ih, List.drop_append, e1, e2, List.nil_append]

/-- The slice at A with as many elements as l holds the packets l, below block B. -/
def Rd (w : World) (B : Nat) (A : Option Addr) (l : List Pkt) : Prop :=
  0 < l.length → ∃ b off, A = some ⟨b, off, none⟩ ∧ b < B ∧ ∀ i p, l[i]? = some p →
    w.cell? ⟨b, off + i * 4, none⟩ = some (.int .i64 p.f) ∧ w.cell? ⟨b, off + i * 4 + 1, none⟩ = some (.int .i64 p.t) ∧ w.cell? ⟨b, off + i * 4 + 2, none⟩ = some (.int .i64 p.a) ∧ w.cell? ⟨b, off + i * 4 + 3, none⟩ = some (.string p.d)
section
variable {w w' : World} {B B' : Nat} {A : Option Addr} {l : List Pkt}
theorem Rd.none_ : Rd w B A [] := fun h => absurd h (by simp)
theorem Rd.at_ {k : Nat} (h : Rd w B A l) (hk : k < l.length) : ∃ b off, A = some ⟨b, off, none⟩ ∧ b < B ∧
    w.cell? ⟨b, off + k * 4, none⟩ = some (.int .i64 l[k].f) ∧ w.cell? ⟨b, off + k * 4 + 1, none⟩ = some (.int .i64 l[k].t) ∧ w.cell? ⟨b, off + k * 4 + 2, none⟩ = some (.int .i64 l[k].a) ∧ w.cell? ⟨b, off + k * 4 + 3, none⟩ = some (.string l[k].d) := by
  obtain ⟨b, off, e, hb, hc⟩ := h (by omega)
  exact ⟨b, off, e, hb, hc k _ (List.getElem?_eq_getElem hk)⟩
theorem Rd.keep (h : Rd w B A l) (hk : ∀ p : Addr, p.block < B → w'.cell? p = w.cell? p) : Rd w' B A l := fun hn => by
  obtain ⟨b, off, e, hb, hc⟩ := h hn
  refine ⟨b, off, e, hb, fun i p hp => ?_⟩
  rw [hk ⟨b, _, none⟩ hb, hk ⟨b, _, none⟩ hb, hk ⟨b, _, none⟩ hb, hk ⟨b, _, none⟩ hb]
  exact hc i p hp
theorem Rd.more (h : Rd w B A l) (hB : B ≤ B') : Rd w B' A l := fun hn => by
  obtain ⟨b, off, e, hb, hc⟩ := h hn
  exact ⟨b, off, e, by omega, hc⟩
theorem Rd.below (h : Rd w B A l) (hb : Below B w w') : Rd w' B A l := h.keep fun _ hp => hb.cell hp
theorem Rd.drew (h : Rd w B A l) : Rd w.drew B A l := h
theorem Rd.drewN (h : Rd w B A l) (k : Nat) : Rd (w.drewN k) B A l := h
theorem Rd.alloc (h : Rd w B A l) (hB : B ≤ w.heap.size) (o : Obj) : Rd (w.alloc o) B A l := h.keep fun p hp => World.cell?_alloc_lt w o p (by omega)
theorem Rd.setCell (h : Rd w B A l) {p : Addr} (hB : B ≤ p.block) (u : Value) : Rd (w.setCell p u) B A l :=
  h.keep fun q hq => World.cell?_setCell_other w p q u (fun e => by subst e; omega)
theorem Rd.grown (h : Rd w B A l) {r : Option Nat} (hg : w.grownBy w' r) (hB : B ≤ w.heap.size) (hr : ∀ g, r = some g → B ≤ g) : Rd w' B A l :=
  h.keep fun p hp => World.cell?_of_block (hg.block p.block (by omega) (fun e => by have := hr _ e.symm; omega))
theorem Rd.of_own {base : Nat} {e : TypeId} {n c : Nat} (h : w.ownsRow base e 4 (.slice A n c) l.length (row l)) : Rd w w.heap.size A l := fun hn => by
  obtain ⟨g, cap, hv, _, hlt⟩ := h.form hn
  have hA : A = some ⟨g, 0, none⟩ := by injection hv
  have hn' : n = l.length := by injection hv
  subst hA hn'
  refine ⟨g, 0, rfl, hlt, fun i p hp => ?_⟩
  have hi : i < l.length := (List.getElem?_eq_some_iff.1 hp).1
  have hx := fun j (hj : j < 4) => (h.cellAt (i * 4 + j) (by omega)).trans (row_at l i p hp j hj)
  refine ⟨?_, ?_, ?_, ?_⟩
  · simpa [Pkt.cs] using hx 0 (by omega)
  · simpa [Pkt.cs] using hx 1 (by omega)
  · simpa [Pkt.cs] using hx 2 (by omega)
  · simpa [Pkt.cs] using hx 3 (by omega)
theorem Rd.take (h : Rd w B A l) (k : Nat) : Rd w B A (l.take k) := fun hn => by
  obtain ⟨b, off, e, hb, hc⟩ := h (by simp at hn; omega)
  refine ⟨b, off, e, hb, fun i p hp => hc i p ?_⟩
  rw [List.getElem?_take] at hp
  split at hp
  · exact hp
  · cases hp
theorem Rd.append_left {m : List Pkt} (h : Rd w B A (l ++ m)) : Rd w B A l := by simpa using h.take l.length
end
end Go.Proofs.Ytgpbfaelhfpbfaa
