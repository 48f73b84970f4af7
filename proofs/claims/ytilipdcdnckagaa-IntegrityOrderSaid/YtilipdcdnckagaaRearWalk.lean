/- The walk of IntegrityRear. -/
import Derived.Test.YtilipdcdnckagaaDistanceWalk
import Derived.Deep.RegionHeld3
namespace Go.Proofs.Ytilipdcdnckagaa
open Go.RowKit

/-- The cells of a train's box and of a report's box. -/
def HasTrain (w : World) (g : Nat) (id : Int) (nm : ByteArray) (l sp ac se em de co ra : Int) : Prop :=
  w.cell? ⟨g, 0, none⟩ = some (.int .i64 id) ∧ w.cell? ⟨g, 1, none⟩ = some (.string nm) ∧ w.cell? ⟨g, 2, none⟩ = some (.int .i64 l) ∧ w.cell? ⟨g, 3, none⟩ = some (.int .i64 sp) ∧ w.cell? ⟨g, 4, none⟩ = some (.int .i64 ac) ∧ w.cell? ⟨g, 5, none⟩ = some (.int .i64 se) ∧ w.cell? ⟨g, 6, none⟩ = some (.int .i64 em) ∧ w.cell? ⟨g, 7, none⟩ = some (.int .i64 de) ∧ w.cell? ⟨g, 8, none⟩ = some (.int .i64 co) ∧ w.cell? ⟨g, 9, none⟩ = some (.int .i64 ra)
def HasReport (w : World) (g : Nat) (mi rs mo acc : Int) (wh : Bool) : Prop :=
  w.cell? ⟨g, 0, none⟩ = some (.int .i64 mi) ∧ w.cell? ⟨g, 1, none⟩ = some (.int .i64 rs) ∧ w.cell? ⟨g, 2, none⟩ = some (.int .i64 mo) ∧ w.cell? ⟨g, 3, none⟩ = some (.int .i64 acc) ∧ w.cell? ⟨g, 4, none⟩ = some (.bool wh)
theorem HasTrain.below {W w1 : World} {g : Nat} {id : Int} {nm : ByteArray} {l sp ac se em de co ra : Int} (h : HasTrain W g id nm l sp ac se em de co ra) (hb : Below W.heap.size W w1) (hg : g < W.heap.size) : HasTrain w1 g id nm l sp ac se em de co ra := by
  obtain ⟨h0, h1, h2, h3, h4, h5, h6, h7, h8, h9⟩ := h
  obtain ⟨hc, _⟩ := bcell hb
  exact ⟨(hc _ _ hg).trans h0, (hc _ _ hg).trans h1, (hc _ _ hg).trans h2, (hc _ _ hg).trans h3, (hc _ _ hg).trans h4, (hc _ _ hg).trans h5, (hc _ _ hg).trans h6, (hc _ _ hg).trans h7, (hc _ _ hg).trans h8, (hc _ _ hg).trans h9⟩
theorem HasReport.below {W w1 : World} {g : Nat} {mi rs mo acc : Int} {wh : Bool} (h : HasReport W g mi rs mo acc wh) (hb : Below W.heap.size W w1) (hg : g < W.heap.size) : HasReport w1 g mi rs mo acc wh := by
  obtain ⟨h0, h1, h2, h3, h4⟩ := h
  obtain ⟨hc, _⟩ := bcell hb
  exact ⟨(hc _ _ hg).trans h0, (hc _ _ hg).trans h1, (hc _ _ hg).trans h2, (hc _ _ hg).trans h3, (hc _ _ hg).trans h4⟩

theorem keep_rear {w W w1 : World} {id : Int} {nm : ByteArray} {l sp ac se em de co ra mi rs mo acc : Int} {wh : Bool} (hb : Below W.heap.size W w1)
    (h : (W.cell? ⟨w.heap.size, 0, none⟩ = some (.int .i64 id) ∧ W.cell? ⟨w.heap.size, 1, none⟩ = some (.string nm) ∧ W.cell? ⟨w.heap.size, 2, none⟩ = some (.int .i64 l) ∧ W.cell? ⟨w.heap.size, 3, none⟩ = some (.int .i64 sp) ∧ W.cell? ⟨w.heap.size, 4, none⟩ = some (.int .i64 ac) ∧ W.cell? ⟨w.heap.size, 5, none⟩ = some (.int .i64 se) ∧ W.cell? ⟨w.heap.size, 6, none⟩ = some (.int .i64 em) ∧ W.cell? ⟨w.heap.size, 7, none⟩ = some (.int .i64 de) ∧ W.cell? ⟨w.heap.size, 8, none⟩ = some (.int .i64 co) ∧ W.cell? ⟨w.heap.size, 9, none⟩ = some (.int .i64 ra)) ∧
      (W.cell? ⟨w.heap.size + 1, 0, none⟩ = some (.int .i64 mi) ∧ W.cell? ⟨w.heap.size + 1, 1, none⟩ = some (.int .i64 rs) ∧ W.cell? ⟨w.heap.size + 1, 2, none⟩ = some (.int .i64 mo) ∧ W.cell? ⟨w.heap.size + 1, 3, none⟩ = some (.int .i64 acc) ∧ W.cell? ⟨w.heap.size + 1, 4, none⟩ = some (.bool wh)) ∧
      w.heap.size + 2 ≤ W.heap.size ∧ Below w.heap.size w W) :
    (w1.cell? ⟨w.heap.size, 0, none⟩ = some (.int .i64 id) ∧ w1.cell? ⟨w.heap.size, 1, none⟩ = some (.string nm) ∧ w1.cell? ⟨w.heap.size, 2, none⟩ = some (.int .i64 l) ∧ w1.cell? ⟨w.heap.size, 3, none⟩ = some (.int .i64 sp) ∧ w1.cell? ⟨w.heap.size, 4, none⟩ = some (.int .i64 ac) ∧ w1.cell? ⟨w.heap.size, 5, none⟩ = some (.int .i64 se) ∧ w1.cell? ⟨w.heap.size, 6, none⟩ = some (.int .i64 em) ∧ w1.cell? ⟨w.heap.size, 7, none⟩ = some (.int .i64 de) ∧ w1.cell? ⟨w.heap.size, 8, none⟩ = some (.int .i64 co) ∧ w1.cell? ⟨w.heap.size, 9, none⟩ = some (.int .i64 ra)) ∧
      (w1.cell? ⟨w.heap.size + 1, 0, none⟩ = some (.int .i64 mi) ∧ w1.cell? ⟨w.heap.size + 1, 1, none⟩ = some (.int .i64 rs) ∧ w1.cell? ⟨w.heap.size + 1, 2, none⟩ = some (.int .i64 mo) ∧ w1.cell? ⟨w.heap.size + 1, 3, none⟩ = some (.int .i64 acc) ∧ w1.cell? ⟨w.heap.size + 1, 4, none⟩ = some (.bool wh)) ∧
      w.heap.size + 2 ≤ w1.heap.size ∧ Below w.heap.size w w1 := by
  obtain ⟨h0, h1, hz, hw⟩ := h
  exact ⟨HasTrain.below h0 hb (by omega), HasReport.below h1 hb (by omega), Nat.le_trans hz hb.size, hw.trans (hb.mono (by omega))⟩

set_option maxHeartbeats 8000000 in
theorem rear_walk (id : Int) (nm : ByteArray) (l sp ac se em de co ra mi rs mo acc : Int) (wh : Bool) (a_ : Int) (w : World) (hnm : nm.size ≤ maxLen) (hm : InI mi) :
    Calls Try.prog 4 #[.agg #[.int .i64 id, .string nm, .int .i64 l, .int .i64 sp, .int .i64 ac, .int .i64 se, .int .i64 em, .int .i64 de, .int .i64 co, .int .i64 ra], .agg #[.int .i64 mi, .int .i64 rs, .int .i64 mo, .int .i64 acc, .bool wh], .int .i64 a_] w fun e w' => e = .returned (.bool true) ∧ Below w.heap.size w w' := by
  go_enter Try.func4, Try.ntmps4
  go_wp2_with fail
  refine (check_any id nm l sp ac se em de co ra _ hnm).mono ?_
  rintro e w1 ⟨n, rfl, hn, hb⟩
  have Hn := Lib.hid hn
  clear hn
  have hz := hb.size
  simp at hz
  have y1 : w.heap.size < w1.heap.size := by omega
  have y2 : w.heap.size + 1 < w1.heap.size := by omega
  have hT : HasTrain w1 w.heap.size id nm l sp ac se em de co ra := HasTrain.below (by simp [HasTrain]) hb (by simp; omega)
  have hR : HasReport w1 (w.heap.size + 1) mi rs mo acc wh := HasReport.below (by simp [HasReport]) hb (by simp)
  have B1 : Below w.heap.size w w1 := (below_alloc2 _ _ _).trans (hb.mono (by simp; omega))
  clear hb
  by_cases n0 : n = 0
  · subst n0
    have hl : 1 ≤ l ∧ l ≤ 50000 := Hn.out rfl
    have HL := Lib.hid hl
    clear Hn hl
    go_wp2_with fail
    go_region_held3 (fun w' => (w'.cell? ⟨w.heap.size, 0, none⟩ = some (.int .i64 id) ∧ w'.cell? ⟨w.heap.size, 1, none⟩ = some (.string nm) ∧ w'.cell? ⟨w.heap.size, 2, none⟩ = some (.int .i64 l) ∧ w'.cell? ⟨w.heap.size, 3, none⟩ = some (.int .i64 sp) ∧ w'.cell? ⟨w.heap.size, 4, none⟩ = some (.int .i64 ac) ∧ w'.cell? ⟨w.heap.size, 5, none⟩ = some (.int .i64 se) ∧ w'.cell? ⟨w.heap.size, 6, none⟩ = some (.int .i64 em) ∧ w'.cell? ⟨w.heap.size, 7, none⟩ = some (.int .i64 de) ∧ w'.cell? ⟨w.heap.size, 8, none⟩ = some (.int .i64 co) ∧ w'.cell? ⟨w.heap.size, 9, none⟩ = some (.int .i64 ra)) ∧
      (w'.cell? ⟨w.heap.size + 1, 0, none⟩ = some (.int .i64 mi) ∧ w'.cell? ⟨w.heap.size + 1, 1, none⟩ = some (.int .i64 rs) ∧ w'.cell? ⟨w.heap.size + 1, 2, none⟩ = some (.int .i64 mo) ∧ w'.cell? ⟨w.heap.size + 1, 3, none⟩ = some (.int .i64 acc) ∧ w'.cell? ⟨w.heap.size + 1, 4, none⟩ = some (.bool wh)) ∧
      w.heap.size + 2 ≤ w'.heap.size ∧ Below w.heap.size w w')
      (first | exact keep_rear hb (by assumption) | exact ⟨hT, hR, y2, B1.drew⟩)
      (first
        | (go_at_call 14; refine (rear_any id nm l sp ac se em de co ra mi _ HL.out hm).mono ?_; rintro e w1 ⟨rfl, hb⟩)
        | (go_at_call 15; refine (rearR_any id nm l sp ac se em de co ra mi _ HL.out hm).mono ?_; rintro e w1 ⟨rfl, hb⟩)
        | (go_at_call 16; refine (beyond_any id nm l sp ac se em de co ra mi rs mo acc wh a_ _ HL.out hm).mono ?_; rintro e w1 ⟨rfl, hb⟩)
        | (go_at_call 17; refine (beyondR_any id nm l sp ac se em de co ra mi rs mo acc wh a_ _ HL.out hm).mono ?_; rintro e w1 ⟨rfl, hb⟩)
        | (go_at_call 12; refine (alive_any _).mono ?_; rintro e w1 ⟨rfl, hb⟩))
    go_wp2
    go_ret
    rename_i hH
    exact ⟨rfl, hH.2.2.2⟩
  · clear Hn
    have nb : (n != 0) = true := by simpa using n0
    go_wp2_with fail
    refine (alive_any _).mono ?_
    rintro e w2 ⟨rfl, hb2⟩
    go_wp2_with fail
    go_ret
    exact ⟨rfl, B1.trans (hb2.mono (by omega))⟩
end Go.Proofs.Ytilipdcdnckagaa
