/- The walks of ModesTrip and ModesReach. -/
import Derived.Test.YtnjlfoncgkdkcaaDoorAlive
namespace Go.Proofs.YtnjlfoncgkdkcaaDoor
open Go.RowKit

theorem six (e : Int) (h : e ≠ 3) : nextF 6 e = 0 := by
  by_cases he : 1 ≤ e ∧ e ≤ 7
  · rcases seven he with rfl | rfl | rfl | rfl | rfl | rfl | rfl <;> first | rfl | exact absurd rfl h
  · exact next_out 6 e (by omega)
theorem after_six (l : List Int) (h : l.contains 3 = false) : afterF 6 l = 6 := by
  induction l with
  | nil => rfl
  | cons e l ih =>
    simp only [List.contains_cons, Bool.or_eq_false_iff] at h
    have he : e ≠ 3 := fun x => by simp [x] at h
    have : afterF 6 (e :: l) = afterF (stepF 6 e) l := rfl
    rw [this, show stepF 6 e = 6 by unfold stepF; rw [six e he]; rfl]
    exact ih h.2
theorem after_three (l : List Int) (k : Nat) (h : k < l.length) (hc : (l.take k).contains 3 = false) (he : l[k] = 3) : afterF 6 (l.take (k + 1)) = 7 := by
  rw [after_snoc 6 l k h, after_six _ hc, he]; rfl
theorem has_not_end (l : List Int) (k : Nat) (hh : l.contains 3 = true) (hc : (l.take k).contains 3 = false) : k < l.length := by
  rcases Nat.lt_or_ge k l.length with h | h
  · exact h
  · rw [List.take_of_length_le h] at hc; rw [hc] at hh; cases hh
def TripRel (l : List Int) (i : Value) : Prop := ∃ k : Nat, k ≤ l.length ∧ i = .int .i64 k ∧ (l.take k).contains 3 = false

set_option maxHeartbeats 2000000 in
theorem trip_walk (A : Option Addr) (c : Nat) (l : List Int) (w : World) (hT : Tabs w) (hl : l.length ≤ maxLen) (hcap : l.length ≤ c) (hA : RdI w w.heap.size A l) :
    Calls Tryd.prog 6 #[.slice A l.length c] w fun e w' => e = .returned (.bool true) ∧ Below w.heap.size w w' := by
  have HT := Lib.hid hT
  have HA := Lib.hid hA
  have HL := Lib.hid hl
  clear hT hA hl
  by_cases h200 : 200 < l.length
  · go_enter Tryd.func6, Tryd.ntmps6
    go_wp2_with fail
    refine (alive_any _ HT.out).mono ?_
    rintro e w1 ⟨rfl, hb⟩
    go_wp2_with fail
    go_ret
    exact ⟨rfl, hb⟩
  · go_enter Tryd.func6, Tryd.ntmps6
    go_wp2_with fail
    refine (has_any A c l 3 _ HL.out HA.out).mono ?_
    rintro e w' ⟨rfl, rfl⟩
    cases hh : hasB l 3
    · have h6 := Lib.hid (after_six l hh)
      clear hh
      go_wp2_with fail
      refine (after_any 6 A l.length c l _ rfl (by omega) HT.out HA.out).mono ?_
      rintro e w' ⟨rfl, rfl⟩
      rw [h6.out]
      go_wp2_with fail
      refine (alive_any _ HT.out).mono ?_
      rintro e w1 ⟨rfl, hb⟩
      go_wp2_with fail
      go_ret
      exact ⟨rfl, hb⟩
    · have HH := Lib.hid hh
      clear hh
      go_wp2_with fail
      go_loop [3] (fun i => TripRel l i) (fun i => l.length - (intOf i).toNat)
      case atStart => exact ⟨0, Nat.zero_le _, rfl, rfl⟩
      case round =>
        obtain ⟨k, hk, rfl, hc⟩ := hrel
        have HC := Lib.hid hc
        clear hc
        have hlt := has_not_end l k HH.out HC.out
        obtain ⟨b, off, rfl, hbb, c0⟩ := HA.out.at_ hlt
        by_cases he : l[k] = 3
        · have h7 := Lib.hid (after_three l k hlt HC.out he)
          have h6 := Lib.hid (after_six (l.take k) HC.out)
          have hb3 : (l[k] != 3) = false := by simpa using he
          have L1 : Hid ((l.take k).length = k) := by show (l.take k).length = k; simp; omega
          have L2 : Hid ((l.take (k + 1)).length = k + 1) := by show (l.take (k + 1)).length = k + 1; simp; omega
          clear he
          have j0 : (0 : Int) ≤ (k : Int) := by omega
          have j1 : (k : Int) ≤ (c : Int) := by omega
          have j2 : (0 : Int) ≤ (k : Int) + 1 := by omega
          have j3 : (k : Int) + 1 ≤ (c : Int) := by omega
          go_wp2_with fail
          refine (after_any 6 _ _ _ (l.take k) _ (L1.out.trans (by simp)) (by rw [L1.out]; omega) HT.out (HA.out.take k)).mono ?_
          rintro e w' ⟨rfl, rfl⟩
          rw [h6.out]
          go_wp2_with fail
          refine (after_any 6 _ _ _ (l.take (k + 1)) _ (L2.out.trans (by first | rfl | (simp; done) | (simp; omega) | omega)) (by rw [L2.out]; omega) HT.out (HA.out.take (k + 1))).mono ?_
          rintro e w' ⟨rfl, rfl⟩
          rw [h7.out]
          go_wp2_with fail
          refine (alive_any _ HT.out).mono ?_
          rintro e w1 ⟨rfl, hb⟩
          go_wp2_with fail
          go_ret
          exact ⟨rfl, hb⟩
        · have H := Lib.hid (has_step l k 3 hlt HC.out he)
          have hb3 : (l[k] != 3) = true := by simpa using he
          clear he
          go_wp2
          go_round
          case rel => exact ⟨k + 1, by omega, by go_num, H.out⟩
          case measure => simp [intOf]; omega

/-- What the chapter promises of a mode that follows an event. -/
theorem reach_ok (m e : Int) (h : nextF m e ≠ 0) : (e = 1 → nextF m e = 2) ∧ (e = 2 → nextF m e = 6) ∧ (e = 7 → nextF m e = 1) ∧ (e = 3 → m = 6 ∧ nextF m e = 7) ∧ (nextF m e = 2 → e = 1) ∧ (nextF m e = 6 → e = 2) := by
  by_cases hr : 1 ≤ m ∧ m ≤ 7 ∧ 1 ≤ e ∧ e ≤ 7
  · rcases seven ⟨hr.1, hr.2.1⟩ with rfl | rfl | rfl | rfl | rfl | rfl | rfl <;> rcases seven ⟨hr.2.2.1, hr.2.2.2⟩ with rfl | rfl | rfl | rfl | rfl | rfl | rfl <;> first | (exact absurd rfl h) | decide
  · exact absurd (next_out m e hr) h
def ReachRel (l : List Int) (u i : Value) : Prop := ∃ k : Nat, k ≤ l.length ∧ i = .int .i64 k ∧ ∃ m : Int, u = .int .i64 m

set_option maxRecDepth 100000 in
set_option maxHeartbeats 4000000 in
theorem reach_walk (m0 : Int) (A : Option Addr) (c : Nat) (l : List Int) (w : World) (hT : Tabs w) (hA : RdI w w.heap.size A l) :
    Calls Tryd.prog 7 #[.int .i64 m0, .slice A l.length c] w fun e w' => e = .returned (.bool true) ∧ Below w.heap.size w w' := by
  have HT := Lib.hid hT
  have HA := Lib.hid hA
  clear hT hA
  by_cases h200 : 200 < l.length
  · go_enter Tryd.func7, Tryd.ntmps7
    go_wp2_with fail
    refine (alive_any _ HT.out).mono ?_
    rintro e w1 ⟨rfl, hb⟩
    go_wp2_with fail
    go_ret
    exact ⟨rfl, hb⟩
  · go_enter Tryd.func7, Tryd.ntmps7
    go_wp2_with fail
    go_loop [0, 5] (fun u i => ReachRel l u i) (fun _ i => l.length - (intOf i).toNat)
    case atStart => exact ⟨0, Nat.zero_le _, rfl, m0, rfl⟩
    case round =>
      obtain ⟨k, hk, rfl, m, rfl⟩ := hrel
      by_cases hlt : k < l.length
      · obtain ⟨b, off, rfl, hbb, c0⟩ := HA.out.at_ hlt
        obtain ⟨ev, hev⟩ : ∃ ev, l[k] = ev := ⟨_, rfl⟩
        rw [hev] at c0
        clear hev
        go_wp2_with fail
        refine (next_any m ev _ HT.out).mono ?_
        rintro e w' ⟨rfl, rfl⟩
        by_cases hn : nextF m ev = 0
        · rw [hn]
          clear hn
          go_wp2
          go_round
          case rel => exact ⟨k + 1, by omega, by go_num, m, rfl⟩
          case measure => simp [intOf]; omega
        · have hnb : (nextF m ev != 0) = true := by simpa using hn
          rw [hnb]
          have hok := reach_ok m ev hn
          obtain ⟨v, hv⟩ : ∃ v, nextF m ev = v := ⟨_, rfl⟩
          rw [hv] at hok ⊢
          have HK := Lib.hid hok
          clear hv hn hnb hok
          rcases (show ev = 1 ∨ ev = 2 ∨ ev = 3 ∨ ev = 7 ∨ (ev ≠ 1 ∧ ev ≠ 2 ∧ ev ≠ 3 ∧ ev ≠ 7) by omega) with rfl | rfl | rfl | rfl | ⟨n1, n2, n3, n7⟩
          · obtain rfl : v = 2 := HK.out.1 rfl
            go_wp2
            go_round
            case rel => exact ⟨k + 1, by omega, by go_num, 2, rfl⟩
            case measure => simp [intOf]; omega
          · obtain rfl : v = 6 := HK.out.2.1 rfl
            go_wp2
            go_round
            case rel => exact ⟨k + 1, by omega, by go_num, 6, rfl⟩
            case measure => simp [intOf]; omega
          · obtain ⟨rfl, rfl⟩ := HK.out.2.2.2.1 rfl
            go_wp2
            go_round
            case rel => exact ⟨k + 1, by omega, by go_num, 7, rfl⟩
            case measure => simp [intOf]; omega
          · obtain rfl : v = 1 := HK.out.2.2.1 rfl
            go_wp2
            go_round
            case rel => exact ⟨k + 1, by omega, by go_num, 1, rfl⟩
            case measure => simp [intOf]; omega
          · have v2 : (v == 2) = false := by rw [beq_eq_false_iff_ne]; exact fun e => n1 (HK.out.2.2.2.2.1 e)
            have v6 : (v == 6) = false := by rw [beq_eq_false_iff_ne]; exact fun e => n2 (HK.out.2.2.2.2.2 e)
            have e1 : (ev == 1) = false := by rw [beq_eq_false_iff_ne]; exact n1
            have e2 : (ev == 2) = false := by rw [beq_eq_false_iff_ne]; exact n2
            have e3 : (ev == 3) = false := by rw [beq_eq_false_iff_ne]; exact n3
            have e7 : (ev == 7) = false := by rw [beq_eq_false_iff_ne]; exact n7
            clear n1 n2 n3 n7
            go_wp2
            go_round
            case rel => exact ⟨k + 1, by omega, by go_num, v, rfl⟩
            case measure => simp [intOf]; omega
      · go_wp2_with fail
        refine (alive_any _ HT.out).mono ?_
        rintro e w1 ⟨rfl, hb⟩
        go_wp2_with fail
        go_ret
        exact ⟨rfl, hb⟩
end Go.Proofs.YtnjlfoncgkdkcaaDoor
