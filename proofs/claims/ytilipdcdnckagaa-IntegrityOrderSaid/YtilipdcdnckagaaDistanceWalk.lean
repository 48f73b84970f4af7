/- The walk of IntegrityDistance. -/
import Derived.Test.YtilipdcdnckagaaAgesWalk
namespace Go.Proofs.Ytilipdcdnckagaa
open Go.RowKit

theorem rear_in (l m : Int) (hl : 1 ≤ l ∧ l ≤ 50000) (h1 : -1073741824 ≤ m) : rearI l m = m - l := by
  unfold rearI; rw [if_neg (by omega)]
theorem beyond_at (l m : Int) (hl : 1 ≤ l ∧ l ≤ 50000) (h1 : -1073741824 ≤ m) : beyondB true l m (m - l) = true := by
  unfold beyondB; rw [rear_in l m hl h1]; simp
theorem beyond_past (l m : Int) (hl : 1 ≤ l ∧ l ≤ 50000) (h1 : -1073741824 ≤ m) : beyondB true l m (m - l + 1) = false := by
  unfold beyondB; rw [rear_in l m hl h1]; simp; omega

set_option maxHeartbeats 2000000 in
theorem distance_walk (id : Int) (nm : ByteArray) (l sp ac se em de co ra : Int) (m : Int) (w : World) (hnm : nm.size ≤ maxLen) (hm : InI m) :
    Calls Try.prog 7 #[.agg #[.int .i64 id, .string nm, .int .i64 l, .int .i64 sp, .int .i64 ac, .int .i64 se, .int .i64 em, .int .i64 de, .int .i64 co, .int .i64 ra], .int .i64 m] w fun e w' => e = .returned (.bool true) ∧ Below w.heap.size w w' := by
  go_enter Try.func7, Try.ntmps7
  go_wp2_with fail
  refine (check_any id nm l sp ac se em de co ra _ hnm).mono ?_
  rintro e w1 ⟨n, rfl, hn, hb⟩
  have Hn := Lib.hid hn
  clear hn
  have hz := hb.size
  simp at hz
  have y1 : w.heap.size < w1.heap.size := by omega
  obtain ⟨hc, hf⟩ := bcell hb
  have B1 : Below w.heap.size w w1 := ((Below.refl _ _).alloc (Nat.le_refl _) _).trans (hb.mono (by simp))
  clear hb
  by_cases n0 : n = 0
  · subst n0
    obtain ⟨l1, l2⟩ := Hn.out rfl
    clear Hn
    by_cases m1 : -1073741824 ≤ m
    · by_cases m2 : m ≤ 1073741824
      · go_wp2_with fail
        refine (rear_any id nm l sp ac se em de co ra m _ ⟨l1, l2⟩ hm).mono ?_
        rintro e w2 ⟨rfl, hb2⟩
        rw [rear_in l m ⟨l1, l2⟩ m1]
        have hz2 := hb2.size
        have y2 : w.heap.size < w2.heap.size := by omega
        obtain ⟨hc2, hf2⟩ := bcell hb2
        have B2 : Below w.heap.size w w2 := B1.trans (hb2.mono (by omega))
        clear hb2
        go_wp2_with fail
        refine (beyond_any id nm l sp ac se em de co ra m 0 0 0 true (m - l) _ ⟨l1, l2⟩ hm).mono ?_
        rintro e w3 ⟨rfl, hb3⟩
        rw [beyond_at l m ⟨l1, l2⟩ m1]
        have hz3 := hb3.size
        simp at hz3
        have y3 : w.heap.size < w3.heap.size := by omega
        have y3' : w2.heap.size < w3.heap.size := by omega
        obtain ⟨hc3, hf3⟩ := bcell hb3
        have B3 : Below w.heap.size w w3 := (B2.alloc (by omega) _).trans (hb3.mono (by simp; omega))
        clear hb3
        go_wp2_with fail
        refine (beyond_any id nm l sp ac se em de co ra m 0 0 0 true (m - l + 1) _ ⟨l1, l2⟩ hm).mono ?_
        rintro e w4 ⟨rfl, hb4⟩
        rw [beyond_past l m ⟨l1, l2⟩ m1]
        have hz4 := hb4.size
        have B4 : Below w.heap.size w w4 := B3.trans (hb4.mono (by omega))
        clear hb4
        go_wp2_with fail
        refine (alive_any _).mono ?_
        rintro e w5 ⟨rfl, hb5⟩
        go_wp2_with fail
        go_ret
        exact ⟨rfl, B4.trans (hb5.mono (by omega))⟩
      · go_wp2_with fail
        refine (alive_any _).mono ?_
        rintro e w2 ⟨rfl, hb2⟩
        go_wp2_with fail
        go_ret
        exact ⟨rfl, B1.trans (hb2.mono (by omega))⟩
    · go_wp2_with fail
      refine (alive_any _).mono ?_
      rintro e w2 ⟨rfl, hb2⟩
      go_wp2_with fail
      go_ret
      exact ⟨rfl, B1.trans (hb2.mono (by omega))⟩
  · clear Hn
    have nb : (n != 0) = true := by simpa using n0
    go_wp2_with fail
    refine (alive_any _).mono ?_
    rintro e w2 ⟨rfl, hb2⟩
    go_wp2_with fail
    go_ret
    exact ⟨rfl, B1.trans (hb2.mono (by omega))⟩
end Go.Proofs.Ytilipdcdnckagaa
