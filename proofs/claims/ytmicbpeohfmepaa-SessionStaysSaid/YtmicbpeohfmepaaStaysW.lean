/- The walk of SessionStays. -/
import Derived.Test.YtmicbpeohfmepaaTakesW
import Derived.Deep.Cut
import Derived.Test.YtmicbpeohfmepaaSendLo
namespace Go.Proofs.Ytmicbpeohfmepaa
open Go.RowKit
theorem tin_ge (p i fr sq tm now : Int) : i ≤ tIn p i fr sq tm now := by
  unfold tIn
  split
  · rename_i h
    unfold errI at h
    split at h
    · omega
    · split at h
      · omega
      · split at h <;> omega
  · omega
set_option maxHeartbeats 8000000 in
theorem stays_walk (p o i h : Int) (kd fr to sq tm as_ ae : Int) (P : Option Addr) (pn pc : Nat) (L : Option Addr) (ln lc : Nat) (r0 r1 r2 r3 : Int) (rb : Bool) (zp zl : List Int) (now : Int) (w : World) (ho : InI o) (htm : InI tm) (hnow : InI now) (hzp : zp.length = pn * 4) (hzl : zl.length = ln * 2) (hP : RdF w w.heap.size P zp) (hL : RdF w w.heap.size L zl) :
    Calls Try.prog 7 #[.agg #[.int .i64 p, .int .i64 o, .int .i64 i, .int .i64 h], .agg (msgA kd fr to sq tm as_ ae P pn pc L ln lc r0 r1 r2 r3 rb), .int .i64 now] w fun e w' => e = .returned (.bool true) ∧ Below w.heap.size w w' := by
  unfold msgA
  have HO := Lib.hid ho
  have HZP := Lib.hid hzp
  have HZL := Lib.hid hzl
  have HP := Lib.hid hP
  have HL := Lib.hid hL
  have HT := Lib.hid htm
  have HN := Lib.hid hnow
  clear ho htm hnow hzp hzl hP hL
  go_enter Try.func7, Try.ntmps7
  go_wp2_with fail
  obtain ⟨b, hb⟩ : ∃ b, b = (decide (200 < pn) || decide (200 < ln)) := ⟨_, rfl⟩
  refine (large_any kd fr to sq tm as_ ae P pn pc L ln lc r0 r1 r2 r3 rb _ b hb).mono ?_
  rintro e w1 ⟨rfl, hb1⟩
  have Hb := Lib.hid hb
  clear hb
  have z1 := hb1.size
  simp at z1
  have S1 := ((Blk.new w 23 _).alloc _).call hb1
  have M1 : Blk w1 (w.heap.size + 1) 31 (msgA kd fr to sq tm as_ ae P pn pc L ln lc r0 r1 r2 r3 rb) := (Blk.new_at _ 31 _ (w.heap.size + 1) (by simp)).call hb1
  have B1 := Lib.hid (carry (below2 _ _ _) hb1)
  clear hb1
  cases b
  case true =>
    go_wp2_with fail
    refine (alive_any _).mono ?_
    rintro e w2 ⟨rfl, hb2⟩
    go_wp2_with fail
    go_ret
    exact ⟨rfl, carry B1.out hb2⟩
  have hpn : pn ≤ 200 := by have := Hb.out; simp at this; omega
  have hln : ln ≤ 200 := by have := Hb.out; simp at this; omega
  clear Hb
  have y0 : w.heap.size < w1.heap.size := by omega
  have y1 : w.heap.size + 1 < w1.heap.size := by omega
  obtain ⟨c0, c1, c2, c3⟩ := S1.four
  obtain ⟨⟨m0, m1, m2, m3, m4⟩, m5, m6, m7, m8, m9, m10, m11, m12, m13⟩ := M1.msgA
  go_wp2_with fail
  clear c0 c1 c2 c3 m0 m1 m2 m3 m4 m5 m6 m7 m8 m9 m10 m11 m12 m13
  refine (send_lo p o i h kd fr to sq tm as_ ae P pn pc L ln lc r0 r1 r2 r3 rb zp zl now _ HO.out hpn hln HZP.out HZL.out (HP.out.at_world B1.out) (HL.out.at_world B1.out)).mono ?_
  rintro e w2 ⟨P2, L2, rfl, RP2, RL2, hb2⟩
  obtain ⟨oo, Hoo⟩ : ∃ x, Hid (outI o = x) := ⟨_, rfl⟩
  rw [Hoo.out]
  have z2 := hb2.size
  have S2 := S1.call hb2
  have M2 := M1.call hb2
  have B2 := Lib.hid (carry B1.out hb2)
  clear hb2 S1 M1 B1
  have y2 : w.heap.size < w2.heap.size := by omega
  have y3 : w.heap.size + 1 < w2.heap.size := by omega
  obtain ⟨c0, c1, c2, c3⟩ := S2.four
  obtain ⟨⟨m0, m1, m2, m3, m4⟩, m5, m6, m7, m8, m9, m10, m11, m12, m13⟩ := M2.msgA
  go_wp2_with fail
  clear c0 c1 c2 c3 m0 m1 m2 m3 m4 m5 m6 m7 m8 m9 m10 m11 m12 m13
  refine (take_any p o i h kd fr to sq tm as_ ae P pn pc L ln lc r0 r1 r2 r3 rb now _ HT.out HN.out).mono ?_
  rintro e w3 ⟨rfl, hb3⟩
  have hti := tin_ge p i fr sq tm now
  obtain ⟨ti, Hti⟩ : ∃ x, Hid (tIn p i fr sq tm now = x) := ⟨_, rfl⟩
  obtain ⟨th, Hth⟩ : ∃ x, Hid (tHeard p i h fr sq tm now = x) := ⟨_, rfl⟩
  obtain ⟨te, Hte⟩ : ∃ x, Hid (errI p i fr sq tm now = x) := ⟨_, rfl⟩
  rw [Hti.out, Hth.out, Hte.out]
  rw [Hti.out] at hti
  have hlt : decide (ti < i) = false := decide_eq_false (by omega)
  have hlt' : ¬ ti < i := by omega
  clear hti
  have z3 := hb3.size
  simp at z3
  have RP3 : Hid (RdL w3 (w1.heap.size + 4) P2 zp) := RP2.call (carry (below2 _ _ _) hb3)
  have RL3 : Hid (RdL w3 (w1.heap.size + 4) L2 zl) := RL2.call (carry (below2 _ _ _) hb3)
  have C3 := Lib.hid (((S2.alloc _).alloc _).call hb3)
  have D3 := Lib.hid (((M2.alloc _).alloc _).call hb3)
  have E3 := Lib.hid (((Blk.new w2 23 #[.int .i64 p, .int .i64 oo, .int .i64 i, .int .i64 h]).alloc _).call hb3)
  have F3 : Hid (Blk w3 (w2.heap.size + 1) 31 (msgA kd fr p oo now as_ ae P2 pn pn L2 ln ln r0 r1 r2 r3 rb)) := (Blk.new_at _ 31 _ (w2.heap.size + 1) (by simp)).call hb3
  have B3 := Lib.hid (carry (B2.out.trans ((below2 _ _ _).mono (by omega))) hb3)
  clear hb3 S2 M2 B2 RP2 RL2
  have y4 : w.heap.size < w3.heap.size := by omega
  have y5 : w.heap.size + 1 < w3.heap.size := by omega
  have y6 : w2.heap.size < w3.heap.size := by omega
  have y7 : w2.heap.size + 1 < w3.heap.size := by omega
  obtain ⟨c0, c1, c2, c3⟩ := C3.out.four
  obtain ⟨d0, d1, d2, d3⟩ := E3.out.four
  have n1 : w2.heap.size + 1 ≠ w.heap.size + 1 := by omega
  have D6 : Hid (Blk (((w3.setCell ⟨w.heap.size + 1, 2, none⟩ (.int .i64 p)).setCell ⟨w.heap.size + 1, 3, none⟩ (.int .i64 oo)).setCell ⟨w.heap.size + 1, 4, none⟩ (.int .i64 now)) (w.heap.size + 1) 31 (msgA kd fr p oo now as_ ae P pn pc L ln lc r0 r1 r2 r3 rb)) := ((D3.out.set_ 2 _).set_ 3 _).set_ 4 _
  have F6 := Lib.hid (((F3.out.far (p := ⟨w.heap.size + 1, 2, none⟩) n1 (.int .i64 p)).far (p := ⟨w.heap.size + 1, 3, none⟩) n1 (.int .i64 oo)).far (p := ⟨w.heap.size + 1, 4, none⟩) n1 (.int .i64 now))
  have C6 := Lib.hid (((C3.out.far (p := ⟨w.heap.size + 1, 2, none⟩) (by show w.heap.size ≠ w.heap.size + 1; omega) (.int .i64 p)).far (p := ⟨w.heap.size + 1, 3, none⟩) (by show w.heap.size ≠ w.heap.size + 1; omega) (.int .i64 oo)).far (p := ⟨w.heap.size + 1, 4, none⟩) (by show w.heap.size ≠ w.heap.size + 1; omega) (.int .i64 now))
  have E6 := Lib.hid (((E3.out.far (p := ⟨w.heap.size + 1, 2, none⟩) (by show w2.heap.size ≠ w.heap.size + 1; omega) (.int .i64 p)).far (p := ⟨w.heap.size + 1, 3, none⟩) (by show w2.heap.size ≠ w.heap.size + 1; omega) (.int .i64 oo)).far (p := ⟨w.heap.size + 1, 4, none⟩) (by show w2.heap.size ≠ w.heap.size + 1; omega) (.int .i64 now))
  have B6 := Lib.hid (((B3.out.setCell (p := ⟨w.heap.size + 1, 2, none⟩) (by show w.heap.size ≤ w.heap.size + 1; omega) (.int .i64 p)).setCell (p := ⟨w.heap.size + 1, 3, none⟩) (by show w.heap.size ≤ w.heap.size + 1; omega) (.int .i64 oo)).setCell (p := ⟨w.heap.size + 1, 4, none⟩) (by show w.heap.size ≤ w.heap.size + 1; omega) (.int .i64 now))
  have x2 : w3.cell? ⟨w2.heap.size + 1, 2, none⟩ = some (.int .i64 p) := F3.out.cell 2
  have e2 := D3.out.frozen 2
  have k2 : w3.cell? ⟨w.heap.size + 1, 2, none⟩ = some (.int .i64 to) := D3.out.cell 2
  go_upto_region 8 with fail
  clear c0 c1 c2 c3 d0 d1 d2 d3 x2 e2 k2
  have x3 : (w3.setCell ⟨w.heap.size + 1, 2, none⟩ (.int .i64 p)).cell? ⟨w2.heap.size + 1, 3, none⟩ = some (.int .i64 oo) := (F3.out.far (p := ⟨w.heap.size + 1, 2, none⟩) n1 (.int .i64 p)).cell 3
  have e3 : (w3.setCell ⟨w.heap.size + 1, 2, none⟩ (.int .i64 p)).frozen? ⟨w.heap.size + 1, 3, none⟩ = false := (D3.out.set_ 2 (.int .i64 p)).frozen 3
  have k3 : (w3.setCell ⟨w.heap.size + 1, 2, none⟩ (.int .i64 p)).cell? ⟨w.heap.size + 1, 3, none⟩ = some (.int .i64 sq) := (D3.out.set_ 2 (.int .i64 p)).cell 3
  have q1 : (w3.setCell ⟨w.heap.size + 1, 2, none⟩ (.int .i64 p)).heap.size = w3.heap.size := by simp [World.setCell]
  have y5' : w.heap.size + 1 < (w3.setCell ⟨w.heap.size + 1, 2, none⟩ (.int .i64 p)).heap.size := by rw [q1]; exact y5
  have y7' : w2.heap.size + 1 < (w3.setCell ⟨w.heap.size + 1, 2, none⟩ (.int .i64 p)).heap.size := by rw [q1]; exact y7
  go_upto_region 9 with fail
  clear x3 e3 k3 q1 y5' y7'
  have x4 : ((w3.setCell ⟨w.heap.size + 1, 2, none⟩ (.int .i64 p)).setCell ⟨w.heap.size + 1, 3, none⟩ (.int .i64 oo)).cell? ⟨w2.heap.size + 1, 4, none⟩ = some (.int .i64 now) := ((F3.out.far (p := ⟨w.heap.size + 1, 2, none⟩) n1 (.int .i64 p)).far (p := ⟨w.heap.size + 1, 3, none⟩) n1 (.int .i64 oo)).cell 4
  have e4 : ((w3.setCell ⟨w.heap.size + 1, 2, none⟩ (.int .i64 p)).setCell ⟨w.heap.size + 1, 3, none⟩ (.int .i64 oo)).frozen? ⟨w.heap.size + 1, 4, none⟩ = false := ((D3.out.set_ 2 (.int .i64 p)).set_ 3 (.int .i64 oo)).frozen 4
  have k4 : ((w3.setCell ⟨w.heap.size + 1, 2, none⟩ (.int .i64 p)).setCell ⟨w.heap.size + 1, 3, none⟩ (.int .i64 oo)).cell? ⟨w.heap.size + 1, 4, none⟩ = some (.int .i64 tm) := ((D3.out.set_ 2 (.int .i64 p)).set_ 3 (.int .i64 oo)).cell 4
  have q2 : ((w3.setCell ⟨w.heap.size + 1, 2, none⟩ (.int .i64 p)).setCell ⟨w.heap.size + 1, 3, none⟩ (.int .i64 oo)).heap.size = w3.heap.size := by simp [World.setCell]
  have y5' : w.heap.size + 1 < ((w3.setCell ⟨w.heap.size + 1, 2, none⟩ (.int .i64 p)).setCell ⟨w.heap.size + 1, 3, none⟩ (.int .i64 oo)).heap.size := by rw [q2]; exact y5
  have y7' : w2.heap.size + 1 < ((w3.setCell ⟨w.heap.size + 1, 2, none⟩ (.int .i64 p)).setCell ⟨w.heap.size + 1, 3, none⟩ (.int .i64 oo)).heap.size := by rw [q2]; exact y7
  go_upto_region 10 with fail
  clear x4 e4 k4 q2 y5' y7'
  have q3 : Hid ((((w3.setCell ⟨w.heap.size + 1, 2, none⟩ (.int .i64 p)).setCell ⟨w.heap.size + 1, 3, none⟩ (.int .i64 oo)).setCell ⟨w.heap.size + 1, 4, none⟩ (.int .i64 now)).heap.size = w3.heap.size) := by show _ = _; simp [World.setCell]
  obtain ⟨V, hV⟩ : ∃ V : World, V = (((w3.setCell ⟨w.heap.size + 1, 2, none⟩ (.int .i64 p)).setCell ⟨w.heap.size + 1, 3, none⟩ (.int .i64 oo)).setCell ⟨w.heap.size + 1, 4, none⟩ (.int .i64 now)) := ⟨_, rfl⟩
  rw [← hV] at D6 F6 C6 E6 B6 q3 ⊢
  have RP6 := Lib.hid (HP.out.at_world B6.out)
  have RL6 := Lib.hid (HL.out.at_world B6.out)
  have RP7 : Hid (RdL V (w1.heap.size + 4) P2 zp) := by
    show RdL V (w1.heap.size + 4) P2 zp
    rw [hV]
    exact ((RP3.out.setCell (q := ⟨w.heap.size + 1, 2, none⟩) (by show w.heap.size + 1 < _; omega) _).setCell (q := ⟨w.heap.size + 1, 3, none⟩) (by show w.heap.size + 1 < _; omega) _).setCell (q := ⟨w.heap.size + 1, 4, none⟩) (by show w.heap.size + 1 < _; omega) _
  have RL7 : Hid (RdL V (w1.heap.size + 4) L2 zl) := by
    show RdL V (w1.heap.size + 4) L2 zl
    rw [hV]
    exact ((RL3.out.setCell (q := ⟨w.heap.size + 1, 2, none⟩) (by show w.heap.size + 1 < _; omega) _).setCell (q := ⟨w.heap.size + 1, 3, none⟩) (by show w.heap.size + 1 < _; omega) _).setCell (q := ⟨w.heap.size + 1, 4, none⟩) (by show w.heap.size + 1 < _; omega) _
  clear hV C3 D3 E3 F3 B3 RP3 RL3
  have u1 : w.heap.size < V.heap.size := by rw [q3.out]; exact y4
  have u2 : w.heap.size + 1 < V.heap.size := by rw [q3.out]; exact y5
  have u3 : w2.heap.size < V.heap.size := by rw [q3.out]; exact y6
  have u4 : w2.heap.size + 1 < V.heap.size := by rw [q3.out]; exact y7
  have c0 : V.cell? ⟨w.heap.size, 0, none⟩ = some (.int .i64 p) := C6.out.cell 0
  have d1 : V.cell? ⟨w2.heap.size, 1, none⟩ = some (.int .i64 oo) := E6.out.cell 1
  obtain ⟨⟨m0, m1, m2, m3, m4⟩, m5, m6, m7, m8, m9, m10, m11, m12, m13⟩ := D6.out.msgA
  obtain ⟨⟨l0, l1, l2, l3, l4⟩, l5, l6, l7, l8, l9, l10, l11, l12, l13⟩ := F6.out.msgA
  have zV : w.heap.size ≤ V.heap.size := by omega
  have BA : Hid (∀ o : Obj, Below V.heap.size V (V.alloc o)) := fun o => (Below.refl _ _).alloc (Nat.le_refl _) _
  go_wp2_with fail
  refine (same14 kd fr p oo now as_ ae P2 P pn pn pc L2 L ln ln lc r0 r1 r2 r3 rb zp zl _ hpn hln HZP.out HZL.out (RP7.out.rd.at_world (BA.out _)) (RP6.out.at_world (BA.out _)) (RL7.out.rd.at_world (BA.out _)) (RL6.out.at_world (BA.out _))).mono ?_
  rintro e w7 ⟨rfl, hb7⟩
  have B7 := Lib.hid (carry (B6.out.alloc zV _) hb7)
  clear hb7 m0 m1 m2 m3 m4 m5 m6 m7 m8 m9 m10 m11 m12 m13 l0 l1 l2 l3 l4 l5 l6 l7 l8 l9 l10 l11 l12 l13 c0 d1
  go_wp2_with fail
  refine (alive_any _).mono ?_
  rintro e w8 ⟨rfl, hb8⟩
  go_wp2_with fail
  go_ret
  exact ⟨rfl, carry B7.out hb8⟩
end Go.Proofs.Ytmicbpeohfmepaa
