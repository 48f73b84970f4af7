/- The walk of SessionSends. -/
import Derived.Test.YtmicbpeohfmepaaTakesW
import Derived.Test.YtmicbpeohfmepaaSendLo
import Derived.Deep.RegionHeld3
namespace Go.Proofs.Ytmicbpeohfmepaa
open Go.RowKit
/-- What the region of the answer looks at: the session, the two sessions and the two messages that were handed back, in their boxes, and the lists. -/
def SndS (w w2 w3 : World) (p o i h oo now kd fr as_ ae : Int) (P : Option Addr) (pn pc : Nat) (L : Option Addr) (ln lc : Nat) (r0 r1 r2 r3 : Int) (rb : Bool) (P2 L2 : Option Addr) (zp zl : List Int) (W : World) : Prop :=
  Blk W w.heap.size 23 #[.int .i64 p, .int .i64 o, .int .i64 i, .int .i64 h] ∧
  Blk W w2.heap.size 23 #[.int .i64 p, .int .i64 oo, .int .i64 i, .int .i64 h] ∧
  Blk W w3.heap.size 23 #[.int .i64 p, .int .i64 oo, .int .i64 i, .int .i64 h] ∧
  Blk W (w2.heap.size + 1) 31 (msgA kd fr p oo now as_ ae P2 pn pn L2 ln ln r0 r1 r2 r3 rb) ∧
  Blk W (w3.heap.size + 1) 31 (msgA kd fr p oo now as_ ae P pn pc L ln lc r0 r1 r2 r3 rb) ∧
  RdF W W.heap.size P2 zp ∧ RdF W W.heap.size L2 zl ∧ Below w.heap.size w W
theorem SndS.next {w w2 w3 W W' : World} {p o i h oo now kd fr as_ ae : Int} {P : Option Addr} {pn pc : Nat} {L : Option Addr} {ln lc : Nat} {r0 r1 r2 r3 : Int} {rb : Bool} {P2 L2 : Option Addr} {zp zl : List Int}
    (H : SndS w w2 w3 p o i h oo now kd fr as_ ae P pn pc L ln lc r0 r1 r2 r3 rb P2 L2 zp zl W) (hb : Below W.heap.size W W') : SndS w w2 w3 p o i h oo now kd fr as_ ae P pn pc L ln lc r0 r1 r2 r3 rb P2 L2 zp zl W' := by
  obtain ⟨a, b, c, d, e, f, g, B⟩ := H
  exact ⟨a.call hb, b.call hb, c.call hb, d.call hb, e.call hb, f.at_world hb, g.at_world hb, carry B hb⟩
set_option maxHeartbeats 8000000 in
theorem sends_walk (p o i h : Int) (kd fr to sq tm as_ ae : Int) (P : Option Addr) (pn pc : Nat) (L : Option Addr) (ln lc : Nat) (r0 r1 r2 r3 : Int) (rb : Bool) (zp zl : List Int) (now : Int) (w : World) (ho : InI o) (hzp : zp.length = pn * 4) (hzl : zl.length = ln * 2) (hP : RdF w w.heap.size P zp) (hL : RdF w w.heap.size L zl) :
    Calls Try.prog 3 #[.agg #[.int .i64 p, .int .i64 o, .int .i64 i, .int .i64 h], .agg (msgA kd fr to sq tm as_ ae P pn pc L ln lc r0 r1 r2 r3 rb), .int .i64 now] w fun e w' => e = .returned (.bool true) ∧ Below w.heap.size w w' := by
  unfold msgA
  have HO := Lib.hid ho
  have HZP := Lib.hid hzp
  have HZL := Lib.hid hzl
  have HP := Lib.hid hP
  have HL := Lib.hid hL
  clear ho hzp hzl hP hL
  go_enter Try.func3, Try.ntmps3
  go_wp2_with fail
  obtain ⟨b, hb⟩ : ∃ b, b = (decide (200 < pn) || decide (200 < ln)) := ⟨_, rfl⟩
  refine (large_any kd fr to sq tm as_ ae P pn pc L ln lc r0 r1 r2 r3 rb _ b hb).mono ?_
  rintro e w1 ⟨rfl, hb1⟩
  have Hb := Lib.hid hb
  clear hb
  have z1 := hb1.size
  simp at z1
  have S1 := ((Blk.new w 23 _).alloc _).call hb1
  have M1 : Blk w1 (w.heap.size + 1) 31 (msgA kd fr to sq tm as_ ae P pn pc L ln lc r0 r1 r2 r3 rb) := (Blk.new_at _ 31 _ (w.heap.size + 1) (by simp)).call hb1
  have B1 := Lib.hid (carry (below2 _ _ _) hb1)
  clear hb1
  cases b
  case true =>
    go_wp2_with fail
    refine (alive_any _).mono ?_
    rintro e w2 ⟨rfl, hb2⟩
    go_wp2_with fail
    go_ret
    exact ⟨rfl, carry B1.out hb2⟩
  have hpn : pn ≤ 200 := by have := Hb.out; simp at this; omega
  have hln : ln ≤ 200 := by have := Hb.out; simp at this; omega
  clear Hb
  have y0 : w.heap.size < w1.heap.size := by omega
  have y1 : w.heap.size + 1 < w1.heap.size := by omega
  obtain ⟨c0, c1, c2, c3⟩ := S1.four
  obtain ⟨⟨m0, m1, m2, m3, m4⟩, m5, m6, m7, m8, m9, m10, m11, m12, m13⟩ := M1.msgA
  go_wp2_with fail
  clear c0 c1 c2 c3 m0 m1 m2 m3 m4 m5 m6 m7 m8 m9 m10 m11 m12 m13
  refine (send_lo p o i h kd fr to sq tm as_ ae P pn pc L ln lc r0 r1 r2 r3 rb zp zl now _ HO.out hpn hln HZP.out HZL.out (HP.out.at_world B1.out) (HL.out.at_world B1.out)).mono ?_
  rintro e w2 ⟨P2, L2, rfl, RP2, RL2, hb2⟩
  obtain ⟨oo, Hoo⟩ : ∃ x, Hid (outI o = x) := ⟨_, rfl⟩
  rw [Hoo.out]
  have z2 := hb2.size
  have S2 := S1.call hb2
  have M2 := M1.call hb2
  have B2 := Lib.hid (carry B1.out hb2)
  clear hb2 S1 M1 B1
  have y2 : w.heap.size < w2.heap.size := by omega
  have y3 : w.heap.size + 1 < w2.heap.size := by omega
  obtain ⟨c0, c1, c2, c3⟩ := S2.four
  obtain ⟨⟨m0, m1, m2, m3, m4⟩, m5, m6, m7, m8, m9, m10, m11, m12, m13⟩ := M2.msgA
  go_wp2_with fail
  clear c0 c1 c2 c3 m0 m1 m2 m3 m4 m5 m6 m7 m8 m9 m10 m11 m12 m13
  refine (sendR_any p o i h kd fr to sq tm as_ ae P pn pc L ln lc r0 r1 r2 r3 rb now _ HO.out).mono ?_
  rintro e w3 ⟨rfl, hb3⟩
  rw [Hoo.out]
  have z3 := hb3.size
  simp at z3
  have RP3 : Hid (RdL w3 (w1.heap.size + 4) P2 zp) := RP2.call (carry (below2 _ _ _) hb3)
  have RL3 : Hid (RdL w3 (w1.heap.size + 4) L2 zl) := RL2.call (carry (below2 _ _ _) hb3)
  have C3 := Lib.hid (((S2.alloc _).alloc _).call hb3)
  have E3 := Lib.hid (((Blk.new w2 23 _).alloc _).call hb3)
  have F3 : Hid (Blk w3 (w2.heap.size + 1) 31 (msgA kd fr p oo now as_ ae P2 pn pn L2 ln ln r0 r1 r2 r3 rb)) := (Blk.new_at _ 31 _ (w2.heap.size + 1) (by simp)).call hb3
  have B3 := Lib.hid (carry ((B2.out.alloc (by omega) _).alloc (by simp; omega) _) hb3)
  clear hb3 RP2 RL2 S2 M2 B2
  go_wp2_with fail
  have C4 := Blk.alloc (Blk.alloc C3.out (.cells #[.int .i64 p, .int .i64 oo, .int .i64 i, .int .i64 h] 23)) (.cells #[.int .i64 kd, .int .i64 fr, .int .i64 p, .int .i64 oo, .int .i64 now, .int .i64 as_, .int .i64 ae, .slice P pn pc, .slice L ln lc, .int .i64 r0, .int .i64 r1, .int .i64 r2, .int .i64 r3, .bool rb] 31)
  have E4 := Blk.alloc (Blk.alloc E3.out (.cells #[.int .i64 p, .int .i64 oo, .int .i64 i, .int .i64 h] 23)) (.cells #[.int .i64 kd, .int .i64 fr, .int .i64 p, .int .i64 oo, .int .i64 now, .int .i64 as_, .int .i64 ae, .slice P pn pc, .slice L ln lc, .int .i64 r0, .int .i64 r1, .int .i64 r2, .int .i64 r3, .bool rb] 31)
  have F4 := Blk.alloc (Blk.alloc F3.out (.cells #[.int .i64 p, .int .i64 oo, .int .i64 i, .int .i64 h] 23)) (.cells #[.int .i64 kd, .int .i64 fr, .int .i64 p, .int .i64 oo, .int .i64 now, .int .i64 as_, .int .i64 ae, .slice P pn pc, .slice L ln lc, .int .i64 r0, .int .i64 r1, .int .i64 r2, .int .i64 r3, .bool rb] 31)
  have G4 := Blk.alloc (Blk.new w3 23 #[.int .i64 p, .int .i64 oo, .int .i64 i, .int .i64 h]) (.cells #[.int .i64 kd, .int .i64 fr, .int .i64 p, .int .i64 oo, .int .i64 now, .int .i64 as_, .int .i64 ae, .slice P pn pc, .slice L ln lc, .int .i64 r0, .int .i64 r1, .int .i64 r2, .int .i64 r3, .bool rb] 31)
  have H4 : Blk _ (w3.heap.size + 1) 31 (msgA kd fr p oo now as_ ae P pn pc L ln lc r0 r1 r2 r3 rb) := Blk.new_at (w3.alloc (.cells #[.int .i64 p, .int .i64 oo, .int .i64 i, .int .i64 h] 23)) 31 _ (w3.heap.size + 1) (by simp)
  have RP4 := (RP3.out.call (below2 w3 (.cells #[.int .i64 p, .int .i64 oo, .int .i64 i, .int .i64 h] 23) (.cells #[.int .i64 kd, .int .i64 fr, .int .i64 p, .int .i64 oo, .int .i64 now, .int .i64 as_, .int .i64 ae, .slice P pn pc, .slice L ln lc, .int .i64 r0, .int .i64 r1, .int .i64 r2, .int .i64 r3, .bool rb] 31))).rd
  have RL4 := (RL3.out.call (below2 w3 (.cells #[.int .i64 p, .int .i64 oo, .int .i64 i, .int .i64 h] 23) (.cells #[.int .i64 kd, .int .i64 fr, .int .i64 p, .int .i64 oo, .int .i64 now, .int .i64 as_, .int .i64 ae, .slice P pn pc, .slice L ln lc, .int .i64 r0, .int .i64 r1, .int .i64 r2, .int .i64 r3, .bool rb] 31))).rd
  have B4 := carry B3.out (below2 w3 (.cells #[.int .i64 p, .int .i64 oo, .int .i64 i, .int .i64 h] 23) (.cells #[.int .i64 kd, .int .i64 fr, .int .i64 p, .int .i64 oo, .int .i64 now, .int .i64 as_, .int .i64 ae, .slice P pn pc, .slice L ln lc, .int .i64 r0, .int .i64 r1, .int .i64 r2, .int .i64 r3, .bool rb] 31))
  have hS0 : SndS w w2 w3 p o i h oo now kd fr as_ ae P pn pc L ln lc r0 r1 r2 r3 rb P2 L2 zp zl (World.drew _) := ⟨C4.drew, E4.drew, G4.drew, F4.drew, H4.drew, RP4, RL4, B4.drew⟩
  clear C4 E4 G4 F4 H4 RP4 RL4 B4
  refine wp_region_held_drew (S := SndS w w2 w3 p o i h oo now kd fr as_ ae P pn pc L ln lc r0 r1 r2 r3 rb P2 L2 zp zl) (by kernel_rfl) hS0 (fun hHeld => ?_)
  clear hS0
  have hq1 := fun W => eql_ses W p 0 0 now
  have hq2 := fun W => eql_ses W p oo i h
  refine wpAnyH_take (i := 0) (oi := ⟨some 28, _, _, _, _, _⟩) (v := ?_) rfl (by kernel_rfl) (by kernel_rfl) (by kernel_rfl) (fun _ _ _ h => h) (Or.inl ⟨by rfl, ?_⟩) hHeld ?_
  rotate_left
  · intro w' hSw
    clear hSw
    go_simp
    try with_reducible rfl
  simp only [Act.put, List.setIfInBounds_toArray, List.set_cons_zero, List.set_cons_succ]
  refine wpAnyH_take (i := 2) (oi := ⟨some 30, _, _, _, _, _⟩) (v := ?_) rfl (by kernel_rfl) (by kernel_rfl) (by kernel_rfl) (fun _ _ _ h => h) (Or.inl ⟨by rfl, ?_⟩) hHeld ?_
  rotate_left
  · intro w' hSw
    clear hSw
    go_simp
    try with_reducible rfl
  simp only [Act.put, List.setIfInBounds_toArray, List.set_cons_zero, List.set_cons_succ]
  refine wpAnyH_take (i := 4) (oi := ⟨some 32, _, _, _, _, _⟩) (v := ?_) rfl (by kernel_rfl) (by kernel_rfl) (by kernel_rfl) (fun _ _ _ h => h) (Or.inl ⟨by rfl, ?_⟩) hHeld ?_
  rotate_left
  · intro w' hSw
    clear hSw
    go_simp
    try with_reducible rfl
  simp only [Act.put, List.setIfInBounds_toArray, List.set_cons_zero, List.set_cons_succ]
  refine wpAnyH_take (i := 6) (oi := ⟨some 34, _, _, _, _, _⟩) (v := ?_) rfl (by kernel_rfl) (by kernel_rfl) (by kernel_rfl) (fun _ _ _ h => h) (Or.inl ⟨by rfl, ?_⟩) hHeld ?_
  rotate_left
  · intro w' hSw
    clear hSw
    go_simp
    try with_reducible rfl
  simp only [Act.put, List.setIfInBounds_toArray, List.set_cons_zero, List.set_cons_succ]
  refine wpAnyH_take (i := 1) (oi := ⟨some 29, _, _, _, _, _⟩) (v := ?_) rfl (by kernel_rfl) (by kernel_rfl) (by kernel_rfl) (fun _ _ _ h => h) (Or.inl ⟨by rfl, ?_⟩) hHeld ?_
  rotate_left
  · intro w' hSw
    obtain ⟨c0, c1, c2, c3⟩ := hSw.1.four
    clear hSw
    go_simp
    try with_reducible rfl
  simp only [Act.put, List.setIfInBounds_toArray, List.set_cons_zero, List.set_cons_succ]
  refine wpAnyH_take (i := 5) (oi := ⟨some 33, _, _, _, _, _⟩) (v := ?_) rfl (by kernel_rfl) (by kernel_rfl) (by kernel_rfl) (fun _ _ _ h => h) (Or.inl ⟨by rfl, ?_⟩) hHeld ?_
  rotate_left
  · intro w' hSw
    obtain ⟨c0, c1, c2, c3⟩ := hSw.1.four
    clear hSw
    go_simp
    try with_reducible rfl
  simp only [Act.put, List.setIfInBounds_toArray, List.set_cons_zero, List.set_cons_succ]
  refine wpAnyH_ready (rs := [3]) (by kernel_rfl) (by simp) ?_
  refine AllReadyH.cons (o := ⟨some 31, _, _, _, _, _⟩) rfl (fun K hK => ?_) AllReadyH.nil
  have HH := Lib.hid hHeld
  clear hHeld
  go_simp
  refine (new_any p now _).mono ?_
  rintro e w4 ⟨rfl, hb'⟩
  have hKeep := HH.out.next hb'
  clear HH hb'
  go_wp2_with fail
  refine hK.out _ _ hKeep (fun hHeld => ?_)
  clear hK K hKeep
  try simp only [Act.put, List.setIfInBounds_toArray, List.set_cons_zero, List.set_cons_succ]
  refine wpAnyH_ready (rs := [7]) (by kernel_rfl) (by simp) ?_
  refine AllReadyH.cons (o := ⟨some 35, _, _, _, _, _⟩) rfl (fun K hK => ?_) AllReadyH.nil
  have HH := Lib.hid hHeld
  clear hHeld
  go_simp
  refine (newR_any p now _).mono ?_
  rintro e w4 ⟨rfl, hb'⟩
  have hKeep := HH.out.next hb'
  clear HH hb'
  go_wp2_with fail
  refine hK.out _ _ hKeep (fun hHeld => ?_)
  clear hK K hKeep
  try simp only [Act.put, List.setIfInBounds_toArray, List.set_cons_zero, List.set_cons_succ]
  refine wpAnyH_take (i := 8) (oi := ⟨some 36, _, _, _, _, _⟩) (v := ?_) rfl (by kernel_rfl) (by kernel_rfl) (by kernel_rfl) (fun _ _ _ h => h) (Or.inl ⟨by rfl, ?_⟩) hHeld ?_
  rotate_left
  · intro w' hSw
    clear hSw
    go_simp
    try with_reducible rfl
  simp only [Act.put, List.setIfInBounds_toArray, List.set_cons_zero, List.set_cons_succ]
  refine wpAnyH_take (i := 9) (oi := ⟨some 37, _, _, _, _, _⟩) (v := ?_) rfl (by kernel_rfl) (by kernel_rfl) (by kernel_rfl) (fun _ _ _ h => h) (Or.inl ⟨by rfl, ?_⟩) hHeld ?_
  rotate_left
  · intro w' hSw
    clear hSw
    go_simp
    try with_reducible rfl
  simp only [Act.put, List.setIfInBounds_toArray, List.set_cons_zero, List.set_cons_succ]
  refine wpAnyH_take (i := 10) (oi := ⟨some 38, _, _, _, _, _⟩) (v := ?_) rfl (by kernel_rfl) (by kernel_rfl) (by kernel_rfl) (fun _ _ _ h => h) (Or.inl ⟨by rfl, ?_⟩) hHeld ?_
  rotate_left
  · intro w' hSw
    obtain ⟨c0, c1, c2, c3⟩ := hSw.2.1.four
    clear hSw
    go_simp
    try with_reducible rfl
  simp only [Act.put, List.setIfInBounds_toArray, List.set_cons_zero, List.set_cons_succ]
  refine wpAnyH_take (i := 11) (oi := ⟨some 39, _, _, _, _, _⟩) (v := ?_) rfl (by kernel_rfl) (by kernel_rfl) (by kernel_rfl) (fun _ _ _ h => h) (Or.inl ⟨by rfl, ?_⟩) hHeld ?_
  rotate_left
  · intro w' hSw
    obtain ⟨c0, c1, c2, c3⟩ := hSw.2.2.1.four
    clear hSw
    go_simp
    try with_reducible rfl
  simp only [Act.put, List.setIfInBounds_toArray, List.set_cons_zero, List.set_cons_succ]
  refine wpAnyH_take (i := 12) (oi := ⟨some 40, _, _, _, _, _⟩) (v := ?_) rfl (by kernel_rfl) (by kernel_rfl) (by kernel_rfl) (fun _ _ _ h => h) (Or.inl ⟨by rfl, ?_⟩) hHeld ?_
  rotate_left
  · intro w' hSw
    clear hSw
    go_simp
    try with_reducible rfl
  simp only [Act.put, List.setIfInBounds_toArray, List.set_cons_zero, List.set_cons_succ]
  refine wpAnyH_take (i := 13) (oi := ⟨some 41, _, _, _, _, _⟩) (v := ?_) rfl (by kernel_rfl) (by kernel_rfl) (by kernel_rfl) (fun _ _ _ h => h) (Or.inl ⟨by rfl, ?_⟩) hHeld ?_
  rotate_left
  · intro w' hSw
    clear hSw
    go_simp
    try with_reducible rfl
  simp only [Act.put, List.setIfInBounds_toArray, List.set_cons_zero, List.set_cons_succ]
  refine wpAnyH_take (i := 14) (oi := ⟨some 42, _, _, _, _, _⟩) (v := ?_) rfl (by kernel_rfl) (by kernel_rfl) (by kernel_rfl) (fun _ _ _ h => h) (Or.inl ⟨by rfl, ?_⟩) hHeld ?_
  rotate_left
  · intro w' hSw
    clear hSw
    go_simp
    try with_reducible rfl
  simp only [Act.put, List.setIfInBounds_toArray, List.set_cons_zero, List.set_cons_succ]
  refine wpAnyH_take (i := 15) (oi := ⟨some 43, _, _, _, _, _⟩) (v := ?_) rfl (by kernel_rfl) (by kernel_rfl) (by kernel_rfl) (fun _ _ _ h => h) (Or.inl ⟨by rfl, ?_⟩) hHeld ?_
  rotate_left
  · intro w' hSw
    obtain ⟨⟨m0, m1, m2, m3, m4⟩, m5, m6, m7, m8, m9, m10, m11, m12, m13⟩ := hSw.2.2.2.1.msgA
    clear hSw
    go_simp
    try with_reducible rfl
  simp only [Act.put, List.setIfInBounds_toArray, List.set_cons_zero, List.set_cons_succ]
  refine wpAnyH_take (i := 16) (oi := ⟨some 44, _, _, _, _, _⟩) (v := ?_) rfl (by kernel_rfl) (by kernel_rfl) (by kernel_rfl) (fun _ _ _ h => h) (Or.inl ⟨by rfl, ?_⟩) hHeld ?_
  rotate_left
  · intro w' hSw
    obtain ⟨⟨m0, m1, m2, m3, m4⟩, m5, m6, m7, m8, m9, m10, m11, m12, m13⟩ := hSw.2.2.2.2.1.msgA
    clear hSw
    go_simp
    try with_reducible rfl
  simp only [Act.put, List.setIfInBounds_toArray, List.set_cons_zero, List.set_cons_succ]
  refine wpAnyH_ready (rs := [17]) (by kernel_rfl) (by simp) ?_
  refine AllReadyH.cons (o := ⟨some 45, _, _, _, _, _⟩) rfl (fun K hK => ?_) AllReadyH.nil
  have HH := Lib.hid hHeld
  clear hHeld
  go_simp
  refine (same14 kd fr p oo now as_ ae P2 P pn pn pc L2 L ln ln lc r0 r1 r2 r3 rb zp zl _ hpn hln HZP.out HZL.out HH.out.2.2.2.2.2.1 (HP.out.at_world HH.out.2.2.2.2.2.2.2) HH.out.2.2.2.2.2.2.1 (HL.out.at_world HH.out.2.2.2.2.2.2.2)).mono ?_
  rintro e w4 ⟨rfl, hb'⟩
  have hKeep := HH.out.next hb'
  clear HH hb'
  go_wp2_with fail
  refine hK.out _ _ hKeep (fun hHeld => ?_)
  clear hK K hKeep
  try simp only [Act.put, List.setIfInBounds_toArray, List.set_cons_zero, List.set_cons_succ]
  refine wpAnyH_take (i := 18) (oi := ⟨some 46, _, _, _, _, _⟩) (v := ?_) rfl (by kernel_rfl) (by kernel_rfl) (by kernel_rfl) (fun _ _ _ h => h) (Or.inl ⟨by rfl, ?_⟩) hHeld ?_
  rotate_left
  · intro w' hSw
    clear hSw
    go_simp
    try with_reducible rfl
  simp only [Act.put, List.setIfInBounds_toArray, List.set_cons_zero, List.set_cons_succ]
  refine wpAnyH_take (i := 19) (oi := ⟨some 47, _, _, _, _, _⟩) (v := ?_) rfl (by kernel_rfl) (by kernel_rfl) (by kernel_rfl) (fun _ _ _ h => h) (Or.inl ⟨by rfl, ?_⟩) hHeld ?_
  rotate_left
  · intro w' hSw
    clear hSw
    go_simp
    try with_reducible rfl
  simp only [Act.put, List.setIfInBounds_toArray, List.set_cons_zero, List.set_cons_succ]
  refine wpAnyH_ready (rs := [20]) (by kernel_rfl) (by simp) ?_
  refine AllReadyH.cons (o := ⟨some 48, _, _, _, _, _⟩) rfl (fun K hK => ?_) AllReadyH.nil
  have HH := Lib.hid hHeld
  clear hHeld
  go_simp
  refine (alive_any _).mono ?_
  rintro e w4 ⟨rfl, hb'⟩
  have hKeep := HH.out.next hb'
  clear HH hb'
  go_wp2_with fail
  refine hK.out _ _ hKeep (fun hHeld => ?_)
  clear hK K hKeep
  try simp only [Act.put, List.setIfInBounds_toArray, List.set_cons_zero, List.set_cons_succ]
  refine wpAnyH_take (i := 21) (oi := ⟨some 49, _, _, _, _, _⟩) (v := ?_) rfl (by kernel_rfl) (by kernel_rfl) (by kernel_rfl) (fun _ _ _ h => h) (Or.inl ⟨by rfl, ?_⟩) hHeld ?_
  rotate_left
  · intro w' hSw
    clear hSw
    go_simp
    try with_reducible rfl
  simp only [Act.put, List.setIfInBounds_toArray, List.set_cons_zero, List.set_cons_succ]
  refine wpAnyH_take (i := 22) (oi := ⟨some 6, _, _, _, _, _⟩) (v := ?_) rfl (by kernel_rfl) (by kernel_rfl) (by kernel_rfl) (fun _ _ _ h => h) (Or.inl ⟨by rfl, ?_⟩) hHeld ?_
  rotate_left
  · intro w' hSw
    clear hSw
    go_simp
    try with_reducible rfl
  simp only [Act.put, List.setIfInBounds_toArray, List.set_cons_zero, List.set_cons_succ]
  refine wpAnyH_done (by kernel_rfl) ?_ _
  have HH := Lib.hid hHeld
  clear hHeld
  go_wp2
  go_ret
  exact ⟨rfl, HH.out.2.2.2.2.2.2.2⟩
end Go.Proofs.Ytmicbpeohfmepaa
