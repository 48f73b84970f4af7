/- Same of messages whose numbers and lists are the same: contracts. -/
import Derived.Test.YtmicbpeohfmepaaWalks
namespace Go.Proofs.Ytmicbpeohfmepaa
open Go.RowKit

theorem below_drewN {B : Nat} {a w : World} (h : Below B a w) (n : Nat) : Below B a (w.drewN n) := ⟨h.os, h.tape, h.output, h.size, h.block⟩
def CntRel (n : Nat) (w : World) (i : Value) (wr : World) : Prop := ∃ k : Nat, k ≤ n ∧ i = .int .i64 k ∧ ∃ m, wr = w.drewN m
theorem run_neq_seg (w : World) (a b c d : Int) : (binOp .neq 52 (.agg #[.int .i64 a, .int .i64 b, .int .i64 c, .int .i64 d]) (.agg #[.int .i64 a, .int .i64 b, .int .i64 c, .int .i64 d])).run Try.prog w = .ok (.bool false) w := by
  go_simp
theorem run_neq_lnk (w : World) (a b : Int) : (binOp .neq 55 (.agg #[.int .i64 a, .int .i64 b]) (.agg #[.int .i64 a, .int .i64 b])).run Try.prog w = .ok (.bool false) w := by
  go_simp

set_option maxHeartbeats 1000000 in
theorem same24 (A A' : Option Addr) (n c c' : Nat) (zs : List Int) (w : World) (hz : zs.length = n * 4) (hn : n ≤ 200) (hA : RdF w w.heap.size A zs) (hA' : RdF w w.heap.size A' zs) :
    Calls Try.prog 24 #[.slice A n c, .slice A' n c'] w fun e w' => e = .returned (.bool true) ∧ ∃ m, w' = w.drewN m := by
  have HA := Lib.hid hA
  have HA' := Lib.hid hA'
  have HZ := Lib.hid hz
  clear hA hA' hz
  go_enter Try.func24, Try.ntmps24
  go_wp2
  go_loopw [5, 13] (fun _ i wr => CntRel n w i wr) (fun _ i _ => n - (intOf i).toNat)
  case atStart => exact ⟨0, Nat.zero_le _, rfl, 0, rfl⟩
  case round =>
    obtain ⟨k, hk, rfl, m, rfl⟩ := hrel
    by_cases hlt : k < n
    · have hlz : k * 4 + 3 < zs.length := by have := HZ.out; omega
      obtain ⟨b, off, rfl, hbb, _⟩ := HA.out (by omega)
      obtain ⟨b', off', rfl, hbb', _⟩ := HA'.out (by omega)
      have c0 := HA.out.cell_ (k := k * 4) (by omega)
      have c1 := HA.out.cell_ (k := k * 4 + 1) (by omega)
      have c2 := HA.out.cell_ (k := k * 4 + 2) (by omega)
      have c3 := HA.out.cell_ (k := k * 4 + 3) (by omega)
      have d0 := HA'.out.cell_ (k := k * 4) (by omega)
      have d1 := HA'.out.cell_ (k := k * 4 + 1) (by omega)
      have d2 := HA'.out.cell_ (k := k * 4 + 2) (by omega)
      have d3 := HA'.out.cell_ (k := k * 4 + 3) (by omega)
      rw [← Nat.add_assoc] at c1 c2 c3 d1 d2 d3
      generalize zs[k * 4] = x0 at *
      generalize zs[k * 4 + 1] = x1 at *
      generalize zs[k * 4 + 2] = x2 at *
      generalize zs[k * 4 + 3] = x3 at *
      have hq := fun W => run_neq_seg W x0 x1 x2 x3
      have i0 : (0 : Int) ≤ (k : Int) := by omega
      have i1 : (k : Int) < (n : Int) := by omega
      clear hlz
      go_wp2
      go_quiet (fail)
      go_wp2
      go_roundw
      case rel => exact ⟨k + 1, by omega, by go_num, _, rfl⟩
      case measure => simp [intOf]; omega
    · go_wp2
      go_ret
      exact ⟨rfl, m, rfl⟩

set_option maxHeartbeats 2000000 in
theorem same21 (as_ ae : Int) (P P2 : Option Addr) (pn pc pc2 : Nat) (L L2 : Option Addr) (ln lc lc2 : Nat) (zp zl : List Int) (w : World) (hpn : pn ≤ 200) (hln : ln ≤ 200) (hzp : zp.length = pn * 4) (hzl : zl.length = ln * 2)
    (hP : RdF w w.heap.size P zp) (hP2 : RdF w w.heap.size P2 zp) (hL : RdF w w.heap.size L zl) (hL2 : RdF w w.heap.size L2 zl) :
    Calls Try.prog 21 #[.agg #[.int .i64 as_, .int .i64 ae, .slice P pn pc, .slice L ln lc], .agg #[.int .i64 as_, .int .i64 ae, .slice P2 pn pc2, .slice L2 ln lc2]] w fun e w' => e = .returned (.bool true) ∧ Below w.heap.size w w' := by
  have HP := Lib.hid hP
  have HP2 := Lib.hid hP2
  have HL := Lib.hid hL
  have HL2 := Lib.hid hL2
  have HZP := Lib.hid hzp
  have HZL := Lib.hid hzl
  clear hP hP2 hL hL2 hzp hzl
  have BA : Hid (∀ A B : Obj, Below w.heap.size w ((w.alloc A).alloc B)) := fun A B => ((Below.refl _ _).alloc (Nat.le_refl _) _).alloc (by simp) _
  go_enter Try.func21, Try.ntmps21
  go_wp2_with fail
  refine (same24 P P2 pn pc pc2 zp _ HZP.out hpn (HP.out.at_world (BA.out _ _)) (HP2.out.at_world (BA.out _ _))).mono ?_
  rintro e w1 ⟨rfl, m0, rfl⟩
  go_wp2_with fail
  go_loopw [5, 38] (fun _ i wr => CntRel ln ((w.alloc (.cells #[.int .i64 as_, .int .i64 ae, .slice P pn pc, .slice L ln lc] 27)).alloc (.cells #[.int .i64 as_, .int .i64 ae, .slice P2 pn pc2, .slice L2 ln lc2] 27)) i wr) (fun _ i _ => ln - (intOf i).toNat)
  case atStart => exact ⟨0, Nat.zero_le _, rfl, m0, rfl⟩
  case round =>
    obtain ⟨k, hk, rfl, m, rfl⟩ := hrel
    by_cases hlt : k < ln
    · have hlz : k * 2 + 1 < zl.length := by have := HZL.out; omega
      have RL := HL.out.at_world (BA.out (.cells #[.int .i64 as_, .int .i64 ae, .slice P pn pc, .slice L ln lc] 27) (.cells #[.int .i64 as_, .int .i64 ae, .slice P2 pn pc2, .slice L2 ln lc2] 27))
      have RL2 := HL2.out.at_world (BA.out (.cells #[.int .i64 as_, .int .i64 ae, .slice P pn pc, .slice L ln lc] 27) (.cells #[.int .i64 as_, .int .i64 ae, .slice P2 pn pc2, .slice L2 ln lc2] 27))
      obtain ⟨b, off, rfl, hbb, _⟩ := HL.out (by omega)
      obtain ⟨b', off', rfl, hbb', _⟩ := HL2.out (by omega)
      have c0 := RL.cell_ (k := k * 2) (by omega)
      have c1 := RL.cell_ (k := k * 2 + 1) (by omega)
      have d0 := RL2.cell_ (k := k * 2) (by omega)
      have d1 := RL2.cell_ (k := k * 2 + 1) (by omega)
      rw [← Nat.add_assoc] at c1 d1
      generalize zl[k * 2] = x0 at *
      generalize zl[k * 2 + 1] = x1 at *
      rw [World.cell?_alloc_lt _ _ _ (by simp; omega), World.cell?_alloc_lt _ _ _ (by simpa using hbb)] at c0 c1
      rw [World.cell?_alloc_lt _ _ _ (by simp; omega), World.cell?_alloc_lt _ _ _ (by simpa using hbb')] at d0 d1
      have hq := fun W => run_neq_lnk W x0 x1
      have i0 : (0 : Int) ≤ (k : Int) := by omega
      have i1 : (k : Int) < (ln : Int) := by omega
      have q1 : b < w.heap.size + 1 := by omega
      have q2 : b' < w.heap.size + 1 := by omega
      clear hlz RL RL2
      go_wp2
      go_quiet (fail)
      go_wp2
      go_roundw
      case rel => exact ⟨k + 1, by omega, by go_num, _, rfl⟩
      case measure => simp [intOf]; omega
    · go_wp2
      go_ret
      exact ⟨rfl, below_drewN (BA.out _ _) _⟩

theorem run_eql_rep (w : World) (a b c d : Int) (x : Bool) : (binOp .eql 29 (.agg #[.int .i64 a, .int .i64 b, .int .i64 c, .int .i64 d, .bool x]) (.agg #[.int .i64 a, .int .i64 b, .int .i64 c, .int .i64 d, .bool x])).run Try.prog w = .ok (.bool true) w := by
  go_simp
set_option maxHeartbeats 2000000 in
theorem same14 (kd fr to sq tm as_ ae : Int) (P P2 : Option Addr) (pn pc pc2 : Nat) (L L2 : Option Addr) (ln lc lc2 : Nat) (r0 r1 r2 r3 : Int) (rb : Bool) (zp zl : List Int) (w : World) (hpn : pn ≤ 200) (hln : ln ≤ 200) (hzp : zp.length = pn * 4) (hzl : zl.length = ln * 2)
    (hP : RdF w w.heap.size P zp) (hP2 : RdF w w.heap.size P2 zp) (hL : RdF w w.heap.size L zl) (hL2 : RdF w w.heap.size L2 zl) :
    Calls Try.prog 14 #[.agg #[.int .i64 kd, .int .i64 fr, .int .i64 to, .int .i64 sq, .int .i64 tm, .int .i64 as_, .int .i64 ae, .slice P pn pc, .slice L ln lc, .int .i64 r0, .int .i64 r1, .int .i64 r2, .int .i64 r3, .bool rb], .agg #[.int .i64 kd, .int .i64 fr, .int .i64 to, .int .i64 sq, .int .i64 tm, .int .i64 as_, .int .i64 ae, .slice P2 pn pc2, .slice L2 ln lc2, .int .i64 r0, .int .i64 r1, .int .i64 r2, .int .i64 r3, .bool rb]] w fun e w' => e = .returned (.bool true) ∧ Below w.heap.size w w' := by
  have HP := Lib.hid hP
  have HP2 := Lib.hid hP2
  have HL := Lib.hid hL
  have HL2 := Lib.hid hL2
  have HZP := Lib.hid hzp
  have HZL := Lib.hid hzl
  clear hP hP2 hL hL2 hzp hzl
  have BA : Hid (∀ A B : Obj, Below w.heap.size w ((w.alloc A).alloc B)) := fun A B => ((Below.refl _ _).alloc (Nat.le_refl _) _).alloc (by simp) _
  have hq := fun W => run_eql_rep W r0 r1 r2 r3 rb
  go_enter Try.func14, Try.ntmps14
  go_wp2_with fail
  refine (same21 as_ ae P P2 pn pc pc2 L L2 ln lc lc2 zp zl _ hpn hln HZP.out HZL.out (HP.out.at_world (BA.out _ _)) (HP2.out.at_world (BA.out _ _)) (HL.out.at_world (BA.out _ _)) (HL2.out.at_world (BA.out _ _))).mono ?_
  rintro e w1 ⟨rfl, hb⟩
  have z1 := hb.size
  simp at z1
  have y0 : w.heap.size < w1.heap.size := by omega
  have y1 : w.heap.size + 1 < w1.heap.size := by omega
  have B1 := Lib.hid (carry (BA.out _ _) hb)
  obtain ⟨hc, hf⟩ := bcell hb
  clear hb
  go_wp2_with fail
  go_ret
  exact ⟨rfl, B1.out⟩
end Go.Proofs.Ytmicbpeohfmepaa
