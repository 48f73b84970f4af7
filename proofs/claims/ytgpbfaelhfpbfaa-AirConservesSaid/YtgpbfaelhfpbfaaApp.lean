/- Lists of packets that the call owns; append onto them. -/
import Derived.Test.YtgpbfaelhfpbfaaFew
import Derived.Maps.AppendAt
import Derived.RegionTactic
namespace Go.Proofs.Ytgpbfaelhfpbfaa
open Go.RowKit

/-- The slice value v is the call's own and holds the packets l. -/
def Own (w : World) (base : Nat) (v : Value) (l : List Pkt) : Prop := w.ownsRow base 28 4 v l.length (row l)
theorem info28 : (Try.prog.info? 28).map (fun i => (i.zero, i.size, i.bytes)) = some (some (.agg #[.int .i64 0, .int .i64 0, .int .i64 0, .string ByteArray.empty]), 4, 40) := by kernel_rfl
section
variable {w w' : World} {base : Nat} {v : Value} {l m : List Pkt}
theorem Own.nil (w : World) (base : Nat) : Own w base (.slice none 0 0) [] := World.ownsRow_nil _ _ _ _
theorem Own.slice (h : Own w base v l) : ∃ A c, v = .slice A l.length c := by
  rcases h.2 with ⟨rfl, h0⟩ | ⟨g, cap, cur, rfl, _⟩
  · exact ⟨none, 0, by rw [h0]⟩
  · exact ⟨_, _, rfl⟩
theorem Own.rd {A : Option Addr} {n c : Nat} (h : Own w base (.slice A n c) l) : Rd w w.heap.size A l := Rd.of_own h
theorem Own.alloc (h : Own w base v l) (o : Obj) : Own (w.alloc o) base v l := World.ownsRow.alloc h o
theorem Own.drew (h : Own w base v l) : Own w.drew base v l := h
theorem Own.drewN (h : Own w base v l) (n : Nat) : Own (w.drewN n) base v l := h
theorem Own.lt (h : Own w base v l) : ∀ k, v.ownBlock = some k → base ≤ k ∧ k < w.heap.size := World.ownsRow.lt h
theorem Own.kept {r : Option Nat} (h : Own w base v l) (hg : w.grownBy w' r) (hne : v.ownBlock = none ∨ v.ownBlock ≠ r) : Own w' base v l := World.ownsRow.kept h hg hne
theorem Own.below {B : Nat} (h : Own w base v l) (hb : Below B w w') (hB : w.heap.size ≤ B) : Own w' base v l :=
  h.kept (r := none) ⟨hb.os, hb.tape, hb.output, hb.size, fun k hk _ => hb.block k (by omega)⟩ (by cases hv : v.ownBlock <;> simp)
theorem Own.setCell (h : Own w base v l) {p : Addr} (hp : ∀ k, v.ownBlock = some k → k ≠ p.block) (u : Value) : Own (w.setCell p u) base v l :=
  h.kept (r := some p.block) ⟨rfl, rfl, rfl, by simp [World.setCell], fun k _ hk => Below.heap_setCell w p u k (fun e => hk (by rw [e]))⟩ (by
    cases hv : v.ownBlock with
    | none => exact .inl rfl
    | some k => exact .inr (fun e => hp k hv (by injection e)))
theorem Own.mono {base' : Nat} (h : Own w base v l) (hb : base' ≤ base) : Own w base' v l := by
  refine ⟨h.1, ?_⟩
  rcases h.2 with h0 | ⟨g, cap, cur, hv, hg, r⟩
  · exact .inl h0
  · exact .inr ⟨g, cap, cur, hv, by omega, r⟩
end

theorem Rd.one (w : World) (p : Pkt) (B : Nat) (hB : w.heap.size < B) : Rd (w.alloc (.cells #[.int .i64 p.f, .int .i64 p.t, .int .i64 p.a, .string p.d] 28)) B (some ⟨w.heap.size, 0, none⟩) [p] := fun _ =>
  ⟨w.heap.size, 0, rfl, hB, fun i q hq => by
    cases i with
    | zero => simp at hq; subst hq; simp
    | succ i => simp at hq⟩

theorem Rd.one_at (w : World) (p : Pkt) (g B : Nat) (hg : w.heap.size = g) (hB : w.heap.size < B) : Rd (w.alloc (.cells #[.int .i64 p.f, .int .i64 p.t, .int .i64 p.a, .string p.d] 28)) B (some ⟨g, 0, none⟩) [p] := by
  subst hg; exact Rd.one w p B hB

theorem Rd.add_ {w : World} {B : Nat} {b off : Nat} {l : List Pkt} (h : Rd w B (some ⟨b, off, none⟩) l) : ∀ j u, (row l)[j]? = some u → w.cell? ((⟨b, off, none⟩ : Addr).add j) = some u := by
  intro j u hu
  have hj : j < l.length * 4 := by have := (List.getElem?_eq_some_iff.1 hu).1; rwa [row_length] at this
  have hk : j / 4 < l.length := by omega
  obtain ⟨b', off', e, _, hc⟩ := h (by omega)
  simp at e
  obtain ⟨rfl, rfl⟩ := e
  obtain ⟨c0, c1, c2, c3⟩ := hc (j / 4) l[j / 4] (List.getElem?_eq_getElem hk)
  have hr := row_at l (j / 4) l[j / 4] (List.getElem?_eq_getElem hk) (j % 4) (by omega)
  rw [show j / 4 * 4 + j % 4 = j by omega, hu] at hr
  have ha : (⟨b, off, none⟩ : Addr).add j = ⟨b, off + j, none⟩ := by unfold Addr.add; split <;> simp_all
  rw [ha]
  rcases (show j % 4 = 0 ∨ j % 4 = 1 ∨ j % 4 = 2 ∨ j % 4 = 3 by omega) with e | e | e | e
  · rw [e] at hr; simp [Pkt.cs] at hr; rw [hr, ← c0]; congr 2; omega
  · rw [e] at hr; simp [Pkt.cs] at hr; rw [hr, ← c1]; congr 2; omega
  · rw [e] at hr; simp [Pkt.cs] at hr; rw [hr, ← c2]; congr 2; omega
  · rw [e] at hr; simp [Pkt.cs] at hr; rw [hr, ← c3]; congr 2; omega

theorem run_app (w : World) (ty : TypeId) (base : Nat) (v : Value) (l : List Pkt) (hown : Own w base v l) (X : Option Addr) (c' : Nat) (m : List Pkt) (hr : Rd w w.heap.size X m) (hlen : l.length + m.length ≤ 100000) (hbase : base ≤ w.heap.size) :
    ∃ A' c w', (Builtin.append_ #[22, 22] ty #[v, .slice X m.length c']).run Try.prog w = .ok (.slice A' (l ++ m).length c) w' ∧ Own w' base (.slice A' (l ++ m).length c) (l ++ m) ∧ w.grownBy w' v.ownBlock ∧
      ((Value.slice A' (l ++ m).length c).ownBlock = v.ownBlock ∨ (Value.slice A' (l ++ m).length c).ownBlock = some w.heap.size) := by
  obtain ⟨i0, hi, hz0, hz1, hz2⟩ := info_parts info28
  by_cases hm : 0 < m.length
  · obtain ⟨b, off, rfl, hb, _⟩ := hr hm
    obtain ⟨v', w', hrun, h2, h3, _, h5⟩ := run_append_own_at (P := Try.prog) w base 22 ty 28 i0 _ 4 40 Try.underlying22 hi hz0 hz1 hz2 rfl (by omega) v l.length (row l) hown ⟨b, off, none⟩ m.length c' (row m) (row_length m) hr.add_ (row_oneCell m) (by unfold maxLen; omega) (by omega) hbase
    have h2' : Own w' base v' (l ++ m) := by unfold Own; rw [List.length_append, row_append]; exact h2
    obtain ⟨A', c, rfl⟩ := h2'.slice
    exact ⟨A', c, w', hrun, h2', h3, h5⟩
  · have : m = [] := List.eq_nil_of_length_eq_zero (by omega)
    subst this
    have hrun : (Builtin.append_ #[22, 22] ty #[v, .slice X ([] : List Pkt).length c']).run Try.prog w = .ok v w := by
      rcases hown.2 with ⟨rfl, h0⟩ | ⟨g, cap, cur, rfl, _, _, hnc, _⟩
      · cases X with
        | none => simp [Builtin.append_, run_underlying Try.underlying22, sizeOf, typeInfo, hi, Builtin.lenOf, Builtin.firstCells]
        | some ad => simp [Builtin.append_, run_underlying Try.underlying22, sizeOf, typeInfo, hi, Builtin.lenOf, Builtin.firstCells, loadCells, loadCellsFrom]
      · cases X with
        | none => simp [Builtin.append_, run_underlying Try.underlying22, sizeOf, typeInfo, hi, Builtin.lenOf, Builtin.firstCells, hnc, storeCells]
        | some ad => simp [Builtin.append_, run_underlying Try.underlying22, sizeOf, typeInfo, hi, Builtin.lenOf, Builtin.firstCells, hnc, storeCells, loadCells, loadCellsFrom]
    obtain ⟨A', c, rfl⟩ := hown.slice
    simp only [List.append_nil]
    exact ⟨A', c, w, hrun, hown, World.grownBy.refl w _, .inl rfl⟩

theorem wp_app (w : World) {o : Oper} {a : Act} {K : Act → World → Prop} {Q : Exit → Act → World → Prop} (s x : Operand) (ho : o.op = .call { callee := .builtin .append, args := #[s, x], argTypes := #[22, 22] })
    (base : Nat) (v : Value) (l : List Pkt) (hs : a.eval s = v) (hown : Own w base v l) (X : Option Addr) (n c' : Nat) (m : List Pkt) (hx : a.eval x = .slice X n c') (hn : m.length = n) (hr : Rd w w.heap.size X m) (hlen : l.length + m.length ≤ 100000) (hbase : base ≤ w.heap.size)
    (h : ∀ A' n' c w', n' = (l ++ m).length → Own w' base (.slice A' n' c) (l ++ m) → w.grownBy w' v.ownBlock → ((Value.slice A' n' c).ownBlock = v.ownBlock ∨ (Value.slice A' n' c).ownBlock = some w.heap.size) → K (a.put o.dst (.slice A' n' c)) w') : o.wp Try.prog a w K Q := by
  subst hn
  obtain ⟨A', c, w', hrun, h2, h3, h4⟩ := run_app w o.type base v l hown X c' m hr hlen hbase
  unfold Oper.wp execOp
  simp only [ho, resolve, invoke, builtin, Sem.run_bind, Sem.run_pure, Result.andThen_ok, List.map_toArray, List.map_cons, List.map_nil, hs, hx, hrun]
  exact h A' _ c w' rfl h2 h3 h4
theorem wpList_app (w : World) {ops : Array Oper} {rest : List Oper} {o : Oper} {a : Act} {Q : Exit → Act → World → Prop} (hgd : o.guard = none) (s x : Operand) (ho : o.op = .call { callee := .builtin .append, args := #[s, x], argTypes := #[22, 22] })
    (base : Nat) (v : Value) (l : List Pkt) (hs : a.eval s = v) (hown : Own w base v l) (X : Option Addr) (n c' : Nat) (m : List Pkt) (hx : a.eval x = .slice X n c') (hn : m.length = n) (hr : Rd w w.heap.size X m) (hlen : l.length + m.length ≤ 100000) (hbase : base ≤ w.heap.size)
    (h : ∀ A' n' c w', n' = (l ++ m).length → Own w' base (.slice A' n' c) (l ++ m) → w.grownBy w' v.ownBlock → ((Value.slice A' n' c).ownBlock = v.ownBlock ∨ (Value.slice A' n' c).ownBlock = some w.heap.size) → wpList Try.prog ops Q rest (a.put o.dst (.slice A' n' c)) w') : wpList Try.prog ops Q (o :: rest) a w :=
  wpList_plain hgd fun _ hK => wp_app w s x ho base v l hs hown X n c' m hx hn hr hlen hbase fun A' n' c w' h0 h1 h2 h3 => hK _ _ (h A' n' c w' h0 h1 h2 h3)
end Go.Proofs.Ytgpbfaelhfpbfaa
