/- Send: contract. -/
import Derived.Test.YtmicbpeohfmepaaTake
namespace Go.Proofs.Ytmicbpeohfmepaa
open Go.RowKit
def SendPost (p o i h kd fr as_ ae : Int) (zp : List Int) (pn : Nat) (zl : List Int) (ln : Nat) (r0 r1 r2 r3 : Int) (rb : Bool) (now : Int) (w : World) (e : Ending) (w' : World) : Prop :=
  ∃ P L : Option Addr, e = .returned (.tuple #[.agg #[.int .i64 p, .int .i64 (outI o), .int .i64 i, .int .i64 h], .agg #[.int .i64 kd, .int .i64 fr, .int .i64 p, .int .i64 (outI o), .int .i64 now, .int .i64 as_, .int .i64 ae, .slice P pn pn, .slice L ln ln, .int .i64 r0, .int .i64 r1, .int .i64 r2, .int .i64 r3, .bool rb]]) ∧ RdF w' w'.heap.size P zp ∧ RdF w' w'.heap.size L zl ∧ Below w.heap.size w w'
/-- A slice that lies in blocks from lo on. -/
def RdL (w : World) (lo : Nat) (A : Option Addr) (l : List Int) : Prop := 0 < l.length → ∃ b off, A = some ⟨b, off, none⟩ ∧ lo ≤ b ∧ b < w.heap.size ∧ ∀ i z, l[i]? = some z → w.cell? ⟨b, off + i, none⟩ = some (.int .i64 z)
theorem RdL.of {w : World} {lo : Nat} {A : Option Addr} {l : List Int} (h : RdF w w.heap.size A l) (hlo : ∀ b off, A = some ⟨b, off, none⟩ → lo ≤ b) : RdL w lo A l := fun hn => by
  obtain ⟨b, off, e, hb, hc⟩ := h hn
  exact ⟨b, off, e, hlo b off e, hb, hc⟩
theorem RdL.setCell {w : World} {lo : Nat} {A : Option Addr} {l : List Int} (h : RdL w lo A l) {q : Addr} (hq : q.block < lo) (u : Value) : RdL (w.setCell q u) lo A l := fun hn => by
  obtain ⟨b, off, e, hlo, hb, hc⟩ := h hn
  refine ⟨b, off, e, hlo, by simpa [World.setCell] using hb, fun i z hz => ?_⟩
  rw [World.cell?_setCell_other _ _ _ _ (fun x => by have : b = q.block := by rw [x]
                                                     omega)]
  exact hc i z hz
theorem RdL.drew {w : World} {lo : Nat} {A : Option Addr} {l : List Int} (h : RdL w lo A l) : RdL w.drew lo A l := h
theorem RdL.rd {w : World} {lo : Nat} {A : Option Addr} {l : List Int} (h : RdL w lo A l) : RdF w w.heap.size A l := fun hn => by
  obtain ⟨b, off, e, _, hb, hc⟩ := h hn
  exact ⟨b, off, e, hb, hc⟩
theorem RdL.call {w w' : World} {lo : Nat} {A : Option Addr} {l : List Int} (h : RdL w lo A l) (hb : Below w.heap.size w w') : RdL w' lo A l := fun hn => by
  obtain ⟨b, off, e, hlo, hlt, hc⟩ := h hn
  exact ⟨b, off, e, hlo, Nat.lt_of_lt_of_le hlt hb.size, fun i z hz => (hb.cell (p := ⟨b, off + i, none⟩) hlt).trans (hc i z hz)⟩
theorem RdL.set4 {w : World} {lo : Nat} {A : Option Addr} {l : List Int} (h : RdL w lo A l) (g : Nat) (hg : g < lo) (u0 u1 u2 u3 : Value) : RdL ((((w.setCell ⟨g, 0, none⟩ u0).setCell ⟨g, 1, none⟩ u1).setCell ⟨g, 2, none⟩ u2).setCell ⟨g, 3, none⟩ u3) lo A l := ((((h.setCell (by exact hg) _).setCell (by exact hg) _).setCell (by exact hg) _).setCell (by exact hg) _)
theorem below_set4 {w a : World} {B : Nat} (h : Below B a w) (g : Nat) (hg : B ≤ g) (u0 u1 u2 u3 : Value) : Below B a ((((w.setCell ⟨g, 0, none⟩ u0).setCell ⟨g, 1, none⟩ u1).setCell ⟨g, 2, none⟩ u2).setCell ⟨g, 3, none⟩ u3) := ((((h.setCell (by exact hg) _).setCell (by exact hg) _).setCell (by exact hg) _).setCell (by exact hg) _)
theorem RdL.set14 {w : World} {lo : Nat} {A : Option Addr} {l : List Int} (h : RdL w lo A l) (g : Nat) (hg : g < lo) (u0 u1 u2 u3 u4 u5 u6 u7 u8 u9 u10 u11 u12 u13 : Value) : RdL ((((((((((((((w.setCell ⟨g, 0, none⟩ u0).setCell ⟨g, 1, none⟩ u1).setCell ⟨g, 2, none⟩ u2).setCell ⟨g, 3, none⟩ u3).setCell ⟨g, 4, none⟩ u4).setCell ⟨g, 5, none⟩ u5).setCell ⟨g, 6, none⟩ u6).setCell ⟨g, 7, none⟩ u7).setCell ⟨g, 8, none⟩ u8).setCell ⟨g, 9, none⟩ u9).setCell ⟨g, 10, none⟩ u10).setCell ⟨g, 11, none⟩ u11).setCell ⟨g, 12, none⟩ u12).setCell ⟨g, 13, none⟩ u13) lo A l := ((((((((((((((h.setCell (by exact hg) _).setCell (by exact hg) _).setCell (by exact hg) _).setCell (by exact hg) _).setCell (by exact hg) _).setCell (by exact hg) _).setCell (by exact hg) _).setCell (by exact hg) _).setCell (by exact hg) _).setCell (by exact hg) _).setCell (by exact hg) _).setCell (by exact hg) _).setCell (by exact hg) _).setCell (by exact hg) _)
theorem below_set14 {w a : World} {B : Nat} (h : Below B a w) (g : Nat) (hg : B ≤ g) (u0 u1 u2 u3 u4 u5 u6 u7 u8 u9 u10 u11 u12 u13 : Value) : Below B a ((((((((((((((w.setCell ⟨g, 0, none⟩ u0).setCell ⟨g, 1, none⟩ u1).setCell ⟨g, 2, none⟩ u2).setCell ⟨g, 3, none⟩ u3).setCell ⟨g, 4, none⟩ u4).setCell ⟨g, 5, none⟩ u5).setCell ⟨g, 6, none⟩ u6).setCell ⟨g, 7, none⟩ u7).setCell ⟨g, 8, none⟩ u8).setCell ⟨g, 9, none⟩ u9).setCell ⟨g, 10, none⟩ u10).setCell ⟨g, 11, none⟩ u11).setCell ⟨g, 12, none⟩ u12).setCell ⟨g, 13, none⟩ u13) := ((((((((((((((h.setCell (by exact hg) _).setCell (by exact hg) _).setCell (by exact hg) _).setCell (by exact hg) _).setCell (by exact hg) _).setCell (by exact hg) _).setCell (by exact hg) _).setCell (by exact hg) _).setCell (by exact hg) _).setCell (by exact hg) _).setCell (by exact hg) _).setCell (by exact hg) _).setCell (by exact hg) _).setCell (by exact hg) _)
set_option maxHeartbeats 8000000 in
theorem send_any (p o i h : Int) (kd fr to sq tm as_ ae : Int) (P : Option Addr) (pn pc : Nat) (L : Option Addr) (ln lc : Nat) (r0 r1 r2 r3 : Int) (rb : Bool) (zp zl : List Int) (now : Int) (w : World) (ho : InI o) (hpn : pn ≤ 200) (hln : ln ≤ 200) (hzp : zp.length = pn * 4) (hzl : zl.length = ln * 2) (hP : RdF w w.heap.size P zp) (hL : RdF w w.heap.size L zl) :
    Calls Try.prog 10 #[.agg #[.int .i64 p, .int .i64 o, .int .i64 i, .int .i64 h], .agg #[.int .i64 kd, .int .i64 fr, .int .i64 to, .int .i64 sq, .int .i64 tm, .int .i64 as_, .int .i64 ae, .slice P pn pc, .slice L ln lc, .int .i64 r0, .int .i64 r1, .int .i64 r2, .int .i64 r3, .bool rb], .int .i64 now] w (SendPost p o i h kd fr as_ ae zp pn zl ln r0 r1 r2 r3 rb now w) := by
  unfold InI at ho
  have HP := Lib.hid hP
  have HL := Lib.hid hL
  have HZP := Lib.hid hzp
  have HZL := Lib.hid hzl
  clear hP hL hzp hzl
  by_cases h1 : o < 1073741824
  · have H := Lib.hid (out_yes o h1)
    go_enter Try.func10, Try.ntmps10
    go_wp2
    go_region
    go_wp2_with fail
    refine (copied19 P pn pc zp _ HZP.out hpn (HP.out.at_world (below4 _ _ _ _ _))).mono ?_
    rintro e w1 ⟨P', rfl, hRP, hb1, hnew⟩
    have z1 := hb1.size
    simp at z1
    have HRP : Hid (RdL w1 (w.heap.size + 4) P' zp) := RdL.of hRP (fun b off h => by have := hnew b off h; simp at this; omega)
    have y0 : w.heap.size < w1.heap.size := by omega
    have y1 : w.heap.size + 1 < w1.heap.size := by omega
    have y2 : w.heap.size + 1 + 1 < w1.heap.size := by omega
    have y3 : w.heap.size + 1 + 1 + 1 < w1.heap.size := by omega
    have B1 := Lib.hid (carry (below4 _ _ _ _ _) hb1)
    obtain ⟨hc1, hf1⟩ := bcell hb1
    clear hb1 hRP hnew
    go_wp2_with fail
    refine (copied20 L ln lc zl _ HZL.out hln (HL.out.at_world (B1.out.setCell (by simp) _))).mono ?_
    rintro e w2 ⟨L', rfl, hRL, hb2, hnew⟩
    have z2 := hb2.size
    simp [World.setCell] at z2
    have HRL : Hid (RdL w2 (w.heap.size + 4) L' zl) := RdL.of hRL (fun b off h => by have := hnew b off h; simp [World.setCell] at this; omega)
    have x0 : w.heap.size < w2.heap.size := by omega
    have x1 : w.heap.size + 1 < w2.heap.size := by omega
    have x2 : w.heap.size + 1 + 1 < w2.heap.size := by omega
    have x3 : w.heap.size + 1 + 1 + 1 < w2.heap.size := by omega
    have B2 := Lib.hid (carry (B1.out.setCell (p := ⟨w.heap.size + 1, 7, none⟩) (by simp) _) hb2)
    have HRP2 : Hid (RdL w2 (w.heap.size + 4) P' zp) := (HRP.out.setCell (q := ⟨w.heap.size + 1, 7, none⟩) (by simp) _).call hb2
    obtain ⟨hc2, hf2⟩ := bcell hb2
    clear hb2 hRL hnew
    go_wp2_with fail
    go_region
    go_wp2
    refine bodyPost_ret (v := .tuple #[.agg #[.int .i64 p, .int .i64 (o + 1), .int .i64 i, .int .i64 h], .agg #[.int .i64 kd, .int .i64 fr, .int .i64 p, .int .i64 (o + 1), .int .i64 now, .int .i64 as_, .int .i64 ae, .slice P' pn pn, .slice L' ln ln, .int .i64 r0, .int .i64 r1, .int .i64 r2, .int .i64 r3, .bool rb]]) (by simp [results, Try.results10, go_sem, hc1, hc2, y2, y3]) rfl ⟨P', L', by rw [H.out], RdL.rd (lo := w.heap.size + 4) ?_, RdL.rd (lo := w.heap.size + 4) ?_, ?_⟩
    · exact (((HRP2.out.setCell (q := ⟨w.heap.size + 1, 8, none⟩) (by simp) _).set4 (w.heap.size + 1 + 1) (by omega) _ _ _ _).set14 (w.heap.size + 1 + 1 + 1) (by omega) _ _ _ _ _ _ _ _ _ _ _ _ _ _).drew
    · exact (((HRL.out.setCell (q := ⟨w.heap.size + 1, 8, none⟩) (by simp) _).set4 (w.heap.size + 1 + 1) (by omega) _ _ _ _).set14 (w.heap.size + 1 + 1 + 1) (by omega) _ _ _ _ _ _ _ _ _ _ _ _ _ _).drew
    · exact (below_set14 (below_set4 (B2.out.setCell (p := ⟨w.heap.size + 1, 8, none⟩) (by simp) _) (w.heap.size + 1 + 1) (by omega) _ _ _ _) (w.heap.size + 1 + 1 + 1) (by omega) _ _ _ _ _ _ _ _ _ _ _ _ _ _).drew
  · have H := Lib.hid (out_no o h1)
    go_enter Try.func10, Try.ntmps10
    go_wp2
    go_region
    go_wp2_with fail
    refine (copied19 P pn pc zp _ HZP.out hpn (HP.out.at_world (below4 _ _ _ _ _))).mono ?_
    rintro e w1 ⟨P', rfl, hRP, hb1, hnew⟩
    have z1 := hb1.size
    simp at z1
    have HRP : Hid (RdL w1 (w.heap.size + 4) P' zp) := RdL.of hRP (fun b off h => by have := hnew b off h; simp at this; omega)
    have y0 : w.heap.size < w1.heap.size := by omega
    have y1 : w.heap.size + 1 < w1.heap.size := by omega
    have y2 : w.heap.size + 1 + 1 < w1.heap.size := by omega
    have y3 : w.heap.size + 1 + 1 + 1 < w1.heap.size := by omega
    have B1 := Lib.hid (carry (below4 _ _ _ _ _) hb1)
    obtain ⟨hc1, hf1⟩ := bcell hb1
    clear hb1 hRP hnew
    go_wp2_with fail
    refine (copied20 L ln lc zl _ HZL.out hln (HL.out.at_world (B1.out.setCell (by simp) _))).mono ?_
    rintro e w2 ⟨L', rfl, hRL, hb2, hnew⟩
    have z2 := hb2.size
    simp [World.setCell] at z2
    have HRL : Hid (RdL w2 (w.heap.size + 4) L' zl) := RdL.of hRL (fun b off h => by have := hnew b off h; simp [World.setCell] at this; omega)
    have x0 : w.heap.size < w2.heap.size := by omega
    have x1 : w.heap.size + 1 < w2.heap.size := by omega
    have x2 : w.heap.size + 1 + 1 < w2.heap.size := by omega
    have x3 : w.heap.size + 1 + 1 + 1 < w2.heap.size := by omega
    have B2 := Lib.hid (carry (B1.out.setCell (p := ⟨w.heap.size + 1, 7, none⟩) (by simp) _) hb2)
    have HRP2 : Hid (RdL w2 (w.heap.size + 4) P' zp) := (HRP.out.setCell (q := ⟨w.heap.size + 1, 7, none⟩) (by simp) _).call hb2
    obtain ⟨hc2, hf2⟩ := bcell hb2
    clear hb2 hRL hnew
    go_wp2_with fail
    go_region
    go_wp2
    refine bodyPost_ret (v := .tuple #[.agg #[.int .i64 p, .int .i64 o, .int .i64 i, .int .i64 h], .agg #[.int .i64 kd, .int .i64 fr, .int .i64 p, .int .i64 o, .int .i64 now, .int .i64 as_, .int .i64 ae, .slice P' pn pn, .slice L' ln ln, .int .i64 r0, .int .i64 r1, .int .i64 r2, .int .i64 r3, .bool rb]]) (by simp [results, Try.results10, go_sem, hc1, hc2, y2, y3]) rfl ⟨P', L', by rw [H.out], RdL.rd (lo := w.heap.size + 4) ?_, RdL.rd (lo := w.heap.size + 4) ?_, ?_⟩
    · exact (((HRP2.out.setCell (q := ⟨w.heap.size + 1, 8, none⟩) (by simp) _).set4 (w.heap.size + 1 + 1) (by omega) _ _ _ _).set14 (w.heap.size + 1 + 1 + 1) (by omega) _ _ _ _ _ _ _ _ _ _ _ _ _ _).drew
    · exact (((HRL.out.setCell (q := ⟨w.heap.size + 1, 8, none⟩) (by simp) _).set4 (w.heap.size + 1 + 1) (by omega) _ _ _ _).set14 (w.heap.size + 1 + 1 + 1) (by omega) _ _ _ _ _ _ _ _ _ _ _ _ _ _).drew
    · exact (below_set14 (below_set4 (B2.out.setCell (p := ⟨w.heap.size + 1, 8, none⟩) (by simp) _) (w.heap.size + 1 + 1) (by omega) _ _ _ _) (w.heap.size + 1 + 1 + 1) (by omega) _ _ _ _ _ _ _ _ _ _ _ _ _ _).drew
end Go.Proofs.Ytmicbpeohfmepaa
