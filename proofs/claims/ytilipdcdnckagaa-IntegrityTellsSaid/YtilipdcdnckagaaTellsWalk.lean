/- The walk of IntegrityTells. -/
import Derived.Test.YtilipdcdnckagaaAlive
import Derived.Deep.RegionHeld3
namespace Go.Proofs.Ytilipdcdnckagaa
open Go.RowKit

theorem keep_tail {w W w1 : World} {k : Bool} {s : Int} (hb : Below W.heap.size W w1)
    (h : W.cell? ⟨w.heap.size, 0, none⟩ = some (.bool k) ∧ W.cell? ⟨w.heap.size, 1, none⟩ = some (.int .i64 s) ∧ w.heap.size + 1 ≤ W.heap.size ∧ Below w.heap.size w W) :
    w1.cell? ⟨w.heap.size, 0, none⟩ = some (.bool k) ∧ w1.cell? ⟨w.heap.size, 1, none⟩ = some (.int .i64 s) ∧ w.heap.size + 1 ≤ w1.heap.size ∧ Below w.heap.size w w1 := by
  obtain ⟨h0, h1, hz, hw⟩ := h
  exact ⟨(hb.cell (p := ⟨w.heap.size, 0, none⟩) hz).trans h0, (hb.cell (p := ⟨w.heap.size, 1, none⟩) hz).trans h1, Nat.le_trans hz hb.size, hw.trans (hb.mono (by omega))⟩

set_option maxHeartbeats 3200000 in
theorem tells_walk (k : Bool) (s n : Int) (w : World) (hs : InI s) (hn : InI n) :
    Calls Try.prog 3 #[.agg #[.bool k, .int .i64 s], .int .i64 n] w fun e w' => e = .returned (.bool true) ∧ Below w.heap.size w w' := by
  go_enter Try.func3, Try.ntmps3
  go_wp2_with fail
  go_region_held3 (fun w' => w'.cell? ⟨w.heap.size, 0, none⟩ = some (.bool k) ∧ w'.cell? ⟨w.heap.size, 1, none⟩ = some (.int .i64 s) ∧ w.heap.size + 1 ≤ w'.heap.size ∧ Below w.heap.size w w')
    (first | exact keep_tail hb (by assumption) | exact ⟨by go_keep, by go_keep, by go_keep, ((Below.refl _ _).alloc (Nat.le_refl _) _).drew⟩)
    (first
      | (go_at_call 8; refine (confirm_any k s n _).mono ?_; rintro e w1 ⟨rfl, hb⟩)
      | (go_at_call 9; refine (confirmR_any k s n _).mono ?_; rintro e w1 ⟨rfl, hb⟩)
      | (go_at_call 10; refine (whole_any k s n _ hs hn).mono ?_; rintro e w1 ⟨rfl, hb⟩)
      | (go_at_call 11; refine (wholeR_any k s n _ hs hn).mono ?_; rintro e w1 ⟨rfl, hb⟩)
      | (go_at_call 12; refine (alive_any _).mono ?_; rintro e w1 ⟨rfl, hb⟩))
  go_wp2
  go_ret
  rename_i hH
  exact ⟨rfl, hH.2.2.2⟩

end Go.Proofs.Ytilipdcdnckagaa
