/- The walk of SessionTakes. -/
import Derived.Test.YtmicbpeohfmepaaAlive
import Derived.Test.YtmicbpeohfmepaaSame
namespace Go.Proofs.Ytmicbpeohfmepaa
open Go.RowKit

def msgA (kd fr to sq tm as_ ae : Int) (P : Option Addr) (pn pc : Nat) (L : Option Addr) (ln lc : Nat) (r0 r1 r2 r3 : Int) (rb : Bool) : Array Value := #[.int .i64 kd, .int .i64 fr, .int .i64 to, .int .i64 sq, .int .i64 tm, .int .i64 as_, .int .i64 ae, .slice P pn pc, .slice L ln lc, .int .i64 r0, .int .i64 r1, .int .i64 r2, .int .i64 r3, .bool rb]
theorem Blk.msgA {w : World} {g : Nat} {t : TypeId} {kd fr to sq tm as_ ae : Int} {P : Option Addr} {pn pc : Nat} {L : Option Addr} {ln lc : Nat} {r0 r1 r2 r3 : Int} {rb : Bool} (h : Blk w g t (msgA kd fr to sq tm as_ ae P pn pc L ln lc r0 r1 r2 r3 rb)) :
    (w.cell? ⟨g, 0, none⟩ = some (.int .i64 kd) ∧ w.cell? ⟨g, 1, none⟩ = some (.int .i64 fr) ∧ w.cell? ⟨g, 2, none⟩ = some (.int .i64 to) ∧ w.cell? ⟨g, 3, none⟩ = some (.int .i64 sq) ∧ w.cell? ⟨g, 4, none⟩ = some (.int .i64 tm)) ∧
    (w.cell? ⟨g, 5, none⟩ = some (.int .i64 as_) ∧ w.cell? ⟨g, 6, none⟩ = some (.int .i64 ae) ∧ w.cell? ⟨g, 7, none⟩ = some (.slice P pn pc) ∧ w.cell? ⟨g, 8, none⟩ = some (.slice L ln lc) ∧ w.cell? ⟨g, 9, none⟩ = some (.int .i64 r0) ∧ w.cell? ⟨g, 10, none⟩ = some (.int .i64 r1) ∧ w.cell? ⟨g, 11, none⟩ = some (.int .i64 r2) ∧ w.cell? ⟨g, 12, none⟩ = some (.int .i64 r3) ∧ w.cell? ⟨g, 13, none⟩ = some (.bool rb)) :=
  ⟨⟨h.cell 0, h.cell 1, h.cell 2, h.cell 3, h.cell 4⟩, h.cell 5, h.cell 6, h.cell 7, h.cell 8, h.cell 9, h.cell 10, h.cell 11, h.cell 12, h.cell 13⟩
theorem below2 (w : World) (A B : Obj) : Below w.heap.size w ((w.alloc A).alloc B) := ((Below.refl _ _).alloc (Nat.le_refl _) _).alloc (by simp) _
theorem eql_ses (W : World) (a b c d : Int) : (binOp .eql 23 (.agg #[.int .i64 a, .int .i64 b, .int .i64 c, .int .i64 d]) (.agg #[.int .i64 a, .int .i64 b, .int .i64 c, .int .i64 d])).run Try.prog W = .ok (.bool true) W := by
  go_simp

set_option maxHeartbeats 8000000 in
theorem takes_walk (p o i h : Int) (kd fr to sq tm as_ ae : Int) (P : Option Addr) (pn pc : Nat) (L : Option Addr) (ln lc : Nat) (r0 r1 r2 r3 : Int) (rb : Bool) (now : Int) (w : World) (htm : InI tm) (hnow : InI now) :
    Calls Try.prog 4 #[.agg #[.int .i64 p, .int .i64 o, .int .i64 i, .int .i64 h], .agg (msgA kd fr to sq tm as_ ae P pn pc L ln lc r0 r1 r2 r3 rb), .int .i64 now] w fun e w' => e = .returned (.bool true) ∧ Below w.heap.size w w' := by
  unfold msgA
  have HT := Lib.hid htm
  have HN := Lib.hid hnow
  clear htm hnow
  go_enter Try.func4, Try.ntmps4
  go_wp2_with fail
  obtain ⟨b, hb⟩ : ∃ b, b = (decide (200 < pn) || decide (200 < ln)) := ⟨_, rfl⟩
  refine (large_any kd fr to sq tm as_ ae P pn pc L ln lc r0 r1 r2 r3 rb _ b hb).mono ?_
  rintro e w1 ⟨rfl, hb1⟩
  clear hb
  have z1 := hb1.size
  simp at z1
  have S1 := ((Blk.new w 23 _).alloc _).call hb1
  have M1 : Blk w1 (w.heap.size + 1) 31 (msgA kd fr to sq tm as_ ae P pn pc L ln lc r0 r1 r2 r3 rb) := (Blk.new_at _ 31 _ (w.heap.size + 1) (by simp)).call hb1
  have B1 := Lib.hid (carry (below2 _ _ _) hb1)
  clear hb1
  cases b
  case true =>
    go_wp2_with fail
    refine (alive_any _).mono ?_
    rintro e w2 ⟨rfl, hb2⟩
    go_wp2_with fail
    go_ret
    exact ⟨rfl, carry B1.out hb2⟩
  have y0 : w.heap.size < w1.heap.size := by omega
  have y1 : w.heap.size + 1 < w1.heap.size := by omega
  obtain ⟨c0, c1, c2, c3⟩ := S1.four
  obtain ⟨⟨m0, m1, m2, m3, m4⟩, m5, m6, m7, m8, m9, m10, m11, m12, m13⟩ := M1.msgA
  go_wp2_with fail
  clear c0 c1 c2 c3 m0 m1 m2 m3 m4 m5 m6 m7 m8 m9 m10 m11 m12 m13
  refine (take_any p o i h kd fr to sq tm as_ ae P pn pc L ln lc r0 r1 r2 r3 rb now _ HT.out HN.out).mono ?_
  rintro e w2 ⟨rfl, hb2⟩
  obtain ⟨ti, Hti⟩ : ∃ x, Hid (tIn p i fr sq tm now = x) := ⟨_, rfl⟩
  obtain ⟨th, Hth⟩ : ∃ x, Hid (tHeard p i h fr sq tm now = x) := ⟨_, rfl⟩
  obtain ⟨te, Hte⟩ : ∃ x, Hid (errI p i fr sq tm now = x) := ⟨_, rfl⟩
  rw [Hti.out, Hth.out, Hte.out]
  have z2 := hb2.size
  have S2 := S1.call hb2
  have M2 := M1.call hb2
  have B2 := Lib.hid (carry B1.out hb2)
  clear hb2 S1 M1 B1
  have y2 : w.heap.size < w2.heap.size := by omega
  have y3 : w.heap.size + 1 < w2.heap.size := by omega
  obtain ⟨c0, c1, c2, c3⟩ := S2.four
  obtain ⟨⟨m0, m1, m2, m3, m4⟩, m5, m6, m7, m8, m9, m10, m11, m12, m13⟩ := M2.msgA
  go_wp2_with fail
  clear c0 c1 c2 c3 m0 m1 m2 m3 m4 m5 m6 m7 m8 m9 m10 m11 m12 m13
  refine (takeR_any p o i h kd fr to sq tm as_ ae P pn pc L ln lc r0 r1 r2 r3 rb now _ HT.out HN.out).mono ?_
  rintro e w3 ⟨rfl, hb3⟩
  rw [Hti.out, Hth.out, Hte.out]
  have z3 := hb3.size
  simp at z3
  have T3 := (Blk.new w2 23 _).call hb3
  have B3 := Lib.hid (carry (B2.out.alloc (by omega) _) hb3)
  clear hb3 S2 M2 B2
  have y4 : w2.heap.size < w3.heap.size := by omega
  have y5 : w.heap.size ≤ w3.heap.size := by omega
  obtain ⟨c0, c1, c2, c3⟩ := T3.four
  have hq := fun W => eql_ses W p o ti th
  go_wp2_with fail
  refine (alive_any _).mono ?_
  rintro e w4 ⟨rfl, hb4⟩
  go_wp2_with fail
  go_ret
  exact ⟨rfl, carry (B3.out.alloc y5 _) hb4⟩
end Go.Proofs.Ytmicbpeohfmepaa
