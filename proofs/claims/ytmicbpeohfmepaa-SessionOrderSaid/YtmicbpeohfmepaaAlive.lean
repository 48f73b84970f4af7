/- The chapter's examples hold: alive of law38 returns true. -/
import Derived.Test.YtmicbpeohfmepaaSend
namespace Go.Proofs.Ytmicbpeohfmepaa
open Go.RowKit

/-- Send of a message without lists. -/
def SendPost0 (p o i h kd fr : Int) (now : Int) (w : World) (e : Ending) (w' : World) : Prop :=
  ∃ P L : Option Addr, e = .returned (.tuple #[.agg #[.int .i64 p, .int .i64 (outI o), .int .i64 i, .int .i64 h], .agg #[.int .i64 kd, .int .i64 fr, .int .i64 p, .int .i64 (outI o), .int .i64 now, .int .i64 0, .int .i64 0, .slice P 0 0, .slice L 0 0, .int .i64 0, .int .i64 0, .int .i64 0, .int .i64 0, .bool false]]) ∧ Below w.heap.size w w'
theorem send0 (p o i h kd fr now : Int) (w : World) (ho : InI o) : Calls Try.prog 10 #[.agg #[.int .i64 p, .int .i64 o, .int .i64 i, .int .i64 h], .agg #[.int .i64 kd, .int .i64 fr, .int .i64 0, .int .i64 0, .int .i64 0, .int .i64 0, .int .i64 0, .slice none 0 0, .slice none 0 0, .int .i64 0, .int .i64 0, .int .i64 0, .int .i64 0, .bool false], .int .i64 now] w (SendPost0 p o i h kd fr now w) :=
  (send_any p o i h kd fr 0 0 0 0 0 none 0 0 none 0 0 0 0 0 0 false [] [] now w ho (by omega) (by omega) rfl rfl RdF.nil RdF.nil).mono fun _ _ ⟨P, L, he, _, _, hb⟩ => ⟨P, L, he, hb⟩
theorem inI_small (n : Int) (h : 0 ≤ n ∧ n ≤ 1000) : InI n := by unfold InI; omega

theorem take0 (i h kd fr to sq tm : Int) (P L : Option Addr) (a b c : Int) (w : World) (htm : InI tm) (H : errI 0 i fr sq tm 14 = c ∧ tIn 0 i fr sq tm 14 = a ∧ tHeard 0 i h fr sq tm 14 = b) :
    Calls Try.prog 15 #[.agg #[.int .i64 0, .int .i64 0, .int .i64 i, .int .i64 h], .agg #[.int .i64 kd, .int .i64 fr, .int .i64 to, .int .i64 sq, .int .i64 tm, .int .i64 0, .int .i64 0, .slice P 0 0, .slice L 0 0, .int .i64 0, .int .i64 0, .int .i64 0, .int .i64 0, .bool false], .int .i64 14] w
      fun e w' => e = .returned (.tuple #[.agg #[.int .i64 0, .int .i64 0, .int .i64 a, .int .i64 b], .int .i64 c]) ∧ Below w.heap.size w w' :=
  (take_any 0 0 i h kd fr to sq tm 0 0 P 0 0 L 0 0 0 0 0 0 false 14 w htm (inI_small _ (by omega))).mono fun _ _ ⟨he, hb⟩ => ⟨by rw [he, H.1, H.2.1, H.2.2], hb⟩
theorem Blk.set4 {w : World} {g : Nat} {t : TypeId} {a b c d : Value} (h : Blk w g t #[a, b, c, d]) (u0 u1 u2 u3 : Value) : Blk ((((w.setCell ⟨g, 0, none⟩ u0).setCell ⟨g, 1, none⟩ u1).setCell ⟨g, 2, none⟩ u2).setCell ⟨g, 3, none⟩ u3) g t #[u0, u1, u2, u3] :=
  (((h.set_ 0 u0).set_ 1 u1).set_ 2 u2).set_ 3 u3
theorem Blk.far4 {w : World} {g g' : Nat} {t : TypeId} {cs : Array Value} (h : Blk w g t cs) (hg : g ≠ g') (u0 u1 u2 u3 : Value) : Blk ((((w.setCell ⟨g', 0, none⟩ u0).setCell ⟨g', 1, none⟩ u1).setCell ⟨g', 2, none⟩ u2).setCell ⟨g', 3, none⟩ u3) g t cs :=
  (((h.far (by exact hg) u0).far (by exact hg) u1).far (by exact hg) u2).far (by exact hg) u3
theorem size_set4 (w : World) (g : Nat) (u0 u1 u2 u3 : Value) : ((((w.setCell ⟨g, 0, none⟩ u0).setCell ⟨g, 1, none⟩ u1).setCell ⟨g, 2, none⟩ u2).setCell ⟨g, 3, none⟩ u3).heap.size = w.heap.size := by simp [World.setCell]
/-- The cells of a box of four. -/
theorem Blk.four {w : World} {g : Nat} {t : TypeId} {a b c d : Value} (h : Blk w g t #[a, b, c, d]) : w.cell? ⟨g, 0, none⟩ = some a ∧ w.cell? ⟨g, 1, none⟩ = some b ∧ w.cell? ⟨g, 2, none⟩ = some c ∧ w.cell? ⟨g, 3, none⟩ = some d := ⟨h.cell 0, h.cell 1, h.cell 2, h.cell 3⟩
theorem Blk.free4 {w : World} {g : Nat} {t : TypeId} {cs : Array Value} (h : Blk w g t cs) : w.frozen? ⟨g, 0, none⟩ = false ∧ w.frozen? ⟨g, 1, none⟩ = false ∧ w.frozen? ⟨g, 2, none⟩ = false ∧ w.frozen? ⟨g, 3, none⟩ = false := ⟨h.frozen 0, h.frozen 1, h.frozen 2, h.frozen 3⟩
def msgCs (kd fr to sq tm : Int) (P L : Option Addr) : Array Value := #[.int .i64 kd, .int .i64 fr, .int .i64 to, .int .i64 sq, .int .i64 tm, .int .i64 0, .int .i64 0, .slice P 0 0, .slice L 0 0, .int .i64 0, .int .i64 0, .int .i64 0, .int .i64 0, .bool false]
theorem Blk.msg {w : World} {g : Nat} {t : TypeId} {kd fr to sq tm : Int} {P L : Option Addr} (h : Blk w g t (msgCs kd fr to sq tm P L)) :
    (w.cell? ⟨g, 0, none⟩ = some (.int .i64 kd) ∧ w.cell? ⟨g, 1, none⟩ = some (.int .i64 fr) ∧ w.cell? ⟨g, 2, none⟩ = some (.int .i64 to) ∧ w.cell? ⟨g, 3, none⟩ = some (.int .i64 sq) ∧ w.cell? ⟨g, 4, none⟩ = some (.int .i64 tm)) ∧
    (w.cell? ⟨g, 5, none⟩ = some (.int .i64 0) ∧ w.cell? ⟨g, 6, none⟩ = some (.int .i64 0) ∧ w.cell? ⟨g, 7, none⟩ = some (.slice P 0 0) ∧ w.cell? ⟨g, 8, none⟩ = some (.slice L 0 0) ∧ w.cell? ⟨g, 9, none⟩ = some (.int .i64 0) ∧ w.cell? ⟨g, 10, none⟩ = some (.int .i64 0) ∧ w.cell? ⟨g, 11, none⟩ = some (.int .i64 0) ∧ w.cell? ⟨g, 12, none⟩ = some (.int .i64 0) ∧ w.cell? ⟨g, 13, none⟩ = some (.bool false)) :=
  ⟨⟨h.cell 0, h.cell 1, h.cell 2, h.cell 3, h.cell 4⟩, h.cell 5, h.cell 6, h.cell 7, h.cell 8, h.cell 9, h.cell 10, h.cell 11, h.cell 12, h.cell 13⟩

set_option maxRecDepth 100000 in
set_option maxHeartbeats 8000000 in
theorem alive_any (w : World) : Calls Try.prog 9 #[] w fun e w' => e = .returned (.bool true) ∧ Below w.heap.size w w' := by
  go_enter Try.func9, Try.ntmps9
  go_wp2_with fail
  refine (new_any 7 10 _).mono ?_
  rintro e w1 ⟨rfl, B1⟩
  have HB1 := Lib.hid B1
  clear B1
  go_wp2_with fail
  refine (send0 7 0 0 10 5 0 10 _ (inI_small _ (by omega))).mono ?_
  rintro e w2 ⟨P1, L1, rfl, hb2⟩
  rw [show outI 0 = 1 from rfl]
  have z1 := HB1.out.size
  have z2 := hb2.size
  simp at z2
  have S2 := (Blk.new w1 23 _).call hb2
  have HB2 := Lib.hid (carry (HB1.out.alloc z1 _) hb2)
  clear hb2
  have c0 : w2.cell? ⟨w1.heap.size, 0, none⟩ = some (.int .i64 7) := S2.cell 0
  have c1 : w2.cell? ⟨w1.heap.size, 1, none⟩ = some (.int .i64 0) := S2.cell 1
  have c2 : w2.cell? ⟨w1.heap.size, 2, none⟩ = some (.int .i64 0) := S2.cell 2
  have c3 : w2.cell? ⟨w1.heap.size, 3, none⟩ = some (.int .i64 10) := S2.cell 3
  have f0 := S2.frozen 0
  have f1 := S2.frozen 1
  have f2 := S2.frozen 2
  have f3 := S2.frozen 3
  have y1 : w1.heap.size < w2.heap.size := by omega
  go_wp2_with fail
  clear c0 c1 c2 c3 f0 f1 f2 f3
  refine (send0 7 1 0 10 5 0 11 _ (inI_small _ (by omega))).mono ?_
  rintro e w3 ⟨P2, L2, rfl, hb3⟩
  rw [show outI 1 = 2 from rfl]
  have z3 := hb3.size
  simp [World.setCell] at z3
  have S3 := ((S2.set4 _ _ _ _).alloc _).call hb3
  have A3 : Blk w3 w2.heap.size 31 (msgCs 5 0 7 1 10 P1 L1) := (Blk.new_at _ 31 _ w2.heap.size (size_set4 _ _ _ _ _ _)).call hb3
  have HB3 := Lib.hid (carry ((below_set4 HB2.out w1.heap.size z1 _ _ _ _).alloc (by rw [size_set4]; omega) _) hb3)
  clear hb3 S2 HB2 z2 HB1
  have y2 : w2.heap.size < w3.heap.size := by omega
  have y3 : w1.heap.size < w3.heap.size := by omega
  obtain ⟨c0, c1, c2, c3⟩ := S3.four
  obtain ⟨f0, f1, f2, f3⟩ := S3.free4
  go_wp2_with fail
  clear c0 c1 c2 c3 f0 f1 f2 f3
  refine (new_any 0 10 _).mono ?_
  rintro e w4 ⟨rfl, hb4⟩
  have z4 := hb4.size
  simp [World.setCell] at z4
  have S4 := ((S3.set4 _ _ _ _).alloc _).call hb4
  have A4 := ((A3.far4 (by omega) _ _ _ _).alloc _).call hb4
  have M4 : Blk w4 w3.heap.size 31 (msgCs 5 0 7 2 11 P2 L2) := (Blk.new_at _ 31 _ w3.heap.size (size_set4 _ _ _ _ _ _)).call hb4
  have HB4 := Lib.hid (carry ((below_set4 HB3.out w1.heap.size z1 _ _ _ _).alloc (by rw [size_set4]; omega) _) hb4)
  clear hb4 S3 A3 HB3 z3
  have y4 : w3.heap.size < w4.heap.size := by omega
  have y5 : w2.heap.size < w4.heap.size := by omega
  have y6 : w1.heap.size < w4.heap.size := by omega
  obtain ⟨⟨m0, m1, m2, m3, m4⟩, m5, m6, m7, m8, m9, m10, m11, m12, m13⟩ := M4.msg
  go_wp2_with fail
  clear m0 m1 m2 m3 m4 m5 m6 m7 m8 m9 m10 m11 m12 m13
  refine (take0 0 10 5 0 7 2 11 P2 L2 2 14 0 _ (inI_small _ (by omega)) ⟨rfl, rfl, rfl⟩).mono ?_
  rintro e w5 ⟨rfl, hb5⟩
  have z5 := hb5.size
  simp at z5
  have T5 := (Blk.new w4 23 _).call hb5
  have S5 := (S4.alloc _).call hb5
  have A5 := (A4.alloc _).call hb5
  have M5 := (M4.alloc _).call hb5
  have HB5 := Lib.hid (carry (HB4.out.alloc (by omega) _) hb5)
  clear hb5 S4 A4 M4 HB4
  have x4 : w4.heap.size < w5.heap.size := by omega
  have x5 : w2.heap.size < w5.heap.size := by omega
  obtain ⟨c0, c1, c2, c3⟩ := T5.four
  obtain ⟨f0, f1, f2, f3⟩ := T5.free4
  obtain ⟨⟨m0, m1, m2, m3, m4⟩, m5, m6, m7, m8, m9, m10, m11, m12, m13⟩ := A5.msg
  go_wp2_with fail
  clear c0 c1 c2 c3 f0 f1 f2 f3 m0 m1 m2 m3 m4 m5 m6 m7 m8 m9 m10 m11 m12 m13
  refine (take0 2 14 5 0 7 1 10 P1 L1 2 14 7 _ (inI_small _ (by omega)) ⟨rfl, rfl, rfl⟩).mono ?_
  rintro e w6 ⟨rfl, hb6⟩
  have z6 := hb6.size
  simp [World.setCell] at z6
  have T6 := (T5.set4 _ _ _ _).call hb6
  have S6 := (S5.far4 (by omega) _ _ _ _).call hb6
  have A6 := (A5.far4 (by omega) _ _ _ _).call hb6
  have M6 := (M5.far4 (by omega) _ _ _ _).call hb6
  have HB6 := Lib.hid (carry (below_set4 HB5.out w4.heap.size (by omega) _ _ _ _) hb6)
  clear hb6 T5 S5 A5 M5 HB5
  have x6 : w4.heap.size < w6.heap.size := by omega
  obtain ⟨c0, c1, c2, c3⟩ := T6.four
  go_wp2_with fail
  clear c0 c1 c2 c3
  refine (take0 2 14 0 0 0 5 9 none none 2 14 15 _ (inI_small _ (by omega)) ⟨rfl, rfl, rfl⟩).mono ?_
  rintro e w7 ⟨rfl, hb7⟩
  have z7 := hb7.size
  simp at z7
  have T7 := (T6.alloc _).call hb7
  have S7 := (S6.alloc _).call hb7
  have A7 := (A6.alloc _).call hb7
  have M7 := (M6.alloc _).call hb7
  have HB7 := Lib.hid (carry (HB6.out.alloc (by omega) _) hb7)
  clear hb7 T6 S6 A6 M6 HB6
  have v1 : w1.heap.size < w7.heap.size := by omega
  have v2 : w2.heap.size < w7.heap.size := by omega
  have v3 : w3.heap.size < w7.heap.size := by omega
  have v4 : w4.heap.size < w7.heap.size := by omega
  obtain ⟨c0, c1, c2, c3⟩ := S7.four
  obtain ⟨d0, d1, d2, d3⟩ := T7.four
  have a2 : w7.cell? ⟨w2.heap.size, 2, none⟩ = some (.int .i64 7) := A7.cell 2
  have a3 : w7.cell? ⟨w2.heap.size, 3, none⟩ = some (.int .i64 1) := A7.cell 3
  have a4 : w7.cell? ⟨w2.heap.size, 4, none⟩ = some (.int .i64 10) := A7.cell 4
  have b3 : w7.cell? ⟨w3.heap.size, 3, none⟩ = some (.int .i64 2) := M7.cell 3
  have z0 := HB7.out.size
  go_wp2_with fail
  refine (alivF_any 7 2 0 10 16 _ (inI_small _ (by omega)) (inI_small _ (by omega))).mono ?_
  rintro e w8 ⟨rfl, hb8⟩
  rw [show recB 10 16 6 = true from rfl]
  have z8 := hb8.size
  simp at z8
  have S8 := (S7.alloc _).call hb8
  have HB8 := Lib.hid (carry (HB7.out.alloc z0 _) hb8)
  clear c0 c1 c2 c3 d0 d1 d2 d3 a2 a3 a4 b3 hb8 T7 S7 A7 M7
  obtain ⟨c0, c1, c2, c3⟩ := S8.four
  go_wp2_with fail
  refine (alivF_any 7 2 0 10 17 _ (inI_small _ (by omega)) (inI_small _ (by omega))).mono ?_
  rintro e w9 ⟨rfl, hb9⟩
  rw [show recB 10 17 6 = false from rfl]
  go_wp2_with fail
  go_ret
  exact ⟨rfl, carry HB8.out hb9⟩
end Go.Proofs.Ytmicbpeohfmepaa
