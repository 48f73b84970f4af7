/- The walk of ModesEvents. -/
import Derived.Test.YtnjlfoncgkdkcaaDoorAlive
namespace Go.Proofs.YtnjlfoncgkdkcaaDoor
open Go.RowKit

def EvsRel (l : List Int) (ev : Int) (w : World) (u i : Value) (wr : World) : Prop := ∃ k : Nat, k ≤ l.length ∧ i = .int .i64 k ∧ u = .bool (hasB (l.take k) ev) ∧ ∃ n, wr = w.drewN n
theorem has_yes (l : List Int) (k : Nat) (z : Int) (h : k < l.length) (hc : hasB (l.take k) z = true) : hasB (l.take (k + 1)) z = true := by
  unfold hasB at *; rw [take_snoc l k h, List.contains_eq_any_beq, List.any_append, ← List.contains_eq_any_beq, hc]; rfl
theorem has_new (l : List Int) (k : Nat) (z : Int) (h : k < l.length) (hc : hasB (l.take k) z = false) (b : Bool) (hb : (l[k] == z) = b) : hasB (l.take (k + 1)) z = b := by
  unfold hasB at *
  rw [take_snoc l k h, List.contains_eq_any_beq, List.any_append, ← List.contains_eq_any_beq, hc, ← hb]
  simp only [List.any_cons, List.any_nil, Bool.or_false, Bool.false_or]
  exact Bool.beq_comm

set_option maxRecDepth 100000 in
set_option maxHeartbeats 4000000 in
theorem events_walk (m ev : Int) (w : World) (hT : Tabs w) : Calls Tryd.prog 4 #[.int .i64 m, .int .i64 ev] w fun e w' => e = .returned (.bool true) ∧ Below w.heap.size w w' := by
  have HT := Lib.hid hT
  clear hT
  have HASC := Lib.hid (ev_asc m)
  have HMEM := Lib.hid (ev_mem m ev)
  have HLEN : Hid ((evL m).length ≤ 7) := evTo_len m 7
  go_enter Tryd.func4, Tryd.ntmps4
  go_wp2_with fail
  refine (events_any m _ HT.out).mono ?_
  rintro e w1 ⟨A, c, rfl, hA, hb1⟩
  obtain ⟨l, hl⟩ : ∃ l, evL m = l := ⟨_, rfl⟩
  rw [hl] at hA HASC HMEM HLEN ⊢
  have HL := Lib.hid hl
  have HA := Lib.hid hA
  clear hl hA
  have h7 := HLEN.out
  go_wp2_with fail
  go_loopw [6, 7] (fun u i wr => EvsRel l ev w1 u i wr) (fun _ i _ => l.length - (intOf i).toNat)
  case atStart => exact ⟨0, Nat.zero_le _, rfl, rfl, 0, rfl⟩
  case round =>
    obtain ⟨k, hk, rfl, rfl, n, rfl⟩ := hrel
    by_cases hlt : k < l.length
    · obtain ⟨b, off, rfl, hbb, c0⟩ := HA.out.at_ hlt
      have hr := asc_at HASC.out k hlt
      obtain ⟨hr1, hr2⟩ := hr
      have d1 : decide (l[k] < 1) = false := by simp; omega
      have d2 : decide (7 < l[k]) = false := by simp; omega
      have i0 : (0 : Int) ≤ (k : Int) := by omega
      have i1 : (k : Int) < (l.length : Int) := by omega
      by_cases hk0 : k = 0
      · subst hk0
        have g0 : decide ((0 : Int) < 0) = false := by simp
        have c0' : w1.cell? ⟨b, off, none⟩ = some (.int .i64 l[0]) := c0
        have i1' : (0 : Int) < (l.length : Int) := i1
        have i1n : 0 < l.length := hlt
        cases hh : hasB (l.take 0) ev
        · have HN := Lib.hid (fun b hb => has_new l 0 ev hlt hh b hb)
          cases he : l[0] == ev
          · have HX := Lib.hid (HN.out _ he)
            clear HN hh
            go_wp2
            go_quiet (fail)
            go_wp2
            go_roundw
            case rel => exact ⟨0 + 1, by omega, by go_num, by rw [HX.out], _, rfl⟩
            case measure => simp [intOf]; omega
          · have HX := Lib.hid (HN.out _ he)
            clear HN hh
            go_wp2
            go_quiet (fail)
            go_wp2
            go_roundw
            case rel => exact ⟨0 + 1, by omega, by go_num, by rw [HX.out], _, rfl⟩
            case measure => simp [intOf]; omega
        · have HX := Lib.hid (has_yes l 0 ev hlt hh)
          clear hh
          go_wp2
          go_quiet (fail)
          go_wp2
          go_roundw
          case rel => exact ⟨0 + 1, by omega, by go_num, by rw [HX.out], _, rfl⟩
          case measure => simp [intOf]; omega
      · have g0 : decide (0 < k) = true := by simp; omega
        have g1 : 0 < k := by omega
        have c1 := HA.out.cell_ (k := k - 1) (by omega)
        have hst : l[k - 1] < l[k] := by
          have := asc_step HASC.out (k - 1) (by omega)
          have e : k - 1 + 1 = k := by omega
          simp only [e] at this
          exact this
        have d3 : decide (l[k] ≤ l[k - 1]) = false := by simp; omega
        have j1 : IntKind.i64.wrap ((k : Int) - 1) = (k : Int) - 1 := by rw [IntKind.wrap_i64]; omega
        have j2 : (0 : Int) ≤ (k : Int) - 1 := by omega
        have j3 : (1 : Int) ≤ (k : Int) := by omega
        have j4 : (k : Int) - 1 < (l.length : Int) := by omega
        have j5 : ((k : Int) - 1).toNat = k - 1 := by omega
        cases hh : hasB (l.take k) ev
        · have HN := Lib.hid (fun b hb => has_new l k ev hlt hh b hb)
          cases he : l[k] == ev
          · have HX := Lib.hid (HN.out _ he)
            clear HN hh
            go_wp2
            go_quiet (fail)
            go_wp2
            go_roundw
            case rel => exact ⟨k + 1, by omega, by go_num, by rw [HX.out], _, rfl⟩
            case measure => simp [intOf]; omega
          · have HX := Lib.hid (HN.out _ he)
            clear HN hh
            go_wp2
            go_quiet (fail)
            go_wp2
            go_roundw
            case rel => exact ⟨k + 1, by omega, by go_num, by rw [HX.out], _, rfl⟩
            case measure => simp [intOf]; omega
        · have HX := Lib.hid (has_yes l k ev hlt hh)
          clear hh
          go_wp2
          go_quiet (fail)
          go_wp2
          go_roundw
          case rel => exact ⟨k + 1, by omega, by go_num, by rw [HX.out], _, rfl⟩
          case measure => simp [intOf]; omega
    · obtain rfl : k = l.length := by omega
      have hm : Hid (hasB (l.take l.length) ev = (nextF m ev != 0)) := by show hasB (l.take l.length) ev = (nextF m ev != 0); rw [List.take_length]; exact HMEM.out
      rw [hm.out]
      have B1' : Below w.heap.size w (w1.drewN n) := ⟨hb1.os, hb1.tape, hb1.output, hb1.size, hb1.block⟩
      have HB1 := Lib.hid B1'
      have HT1 := Lib.hid (HT.out.below B1')
      have nr := next_range m ev
      clear B1'
      obtain ⟨v, hv⟩ : ∃ v, nextF m ev = v := ⟨_, rfl⟩
      have HV := Lib.hid hv
      rw [hv]
      rw [hv] at nr
      clear hv hb1
      obtain ⟨nr1, nr2⟩ := nr
      go_wp2_with fail
      refine (next_any m ev _ HT1.out).mono ?_
      rintro e w' ⟨rfl, rfl⟩
      rw [HV.out]
      by_cases hv0 : v = 0
      · subst hv0
        go_wp2_with fail
        refine (eventsR_any m _).mono ?_
        rintro e w3 ⟨A3, c3, rfl, hA3, hb3⟩
        rw [HL.out] at hA3 ⊢
        have HA3 := Lib.hid hA3
        have B3 := carry HB1.out hb3
        clear hA3
        go_wp2_with fail
        refine (same_self _ _ _ _ _ _ l _ rfl rfl (by omega) (RdI.at_world (w := w1.drewN n) HA.out hb3) HA3.out).mono ?_
        rintro e w4 ⟨rfl, hb4⟩
        have B4 := carry B3 hb4
        clear hb4 hb3 B3
        go_wp2_with fail
        refine (alive_any _ (HT.out.below B4)).mono ?_
        rintro e w5 ⟨rfl, hb5⟩
        go_wp2_with fail
        go_ret
        exact ⟨rfl, carry B4 hb5⟩
      · have vb : (v != 0) = true := by simpa using hv0
        rw [vb]
        have v1 : 1 ≤ v := by omega
        clear hv0 vb
        go_wp2_with fail
        refine (eventsR_any m _).mono ?_
        rintro e w3 ⟨A3, c3, rfl, hA3, hb3⟩
        rw [HL.out] at hA3 ⊢
        have HA3 := Lib.hid hA3
        have B3 := carry HB1.out hb3
        clear hA3
        go_wp2_with fail
        refine (same_self _ _ _ _ _ _ l _ rfl rfl (by omega) (RdI.at_world (w := w1.drewN n) HA.out hb3) HA3.out).mono ?_
        rintro e w4 ⟨rfl, hb4⟩
        have B4 := carry B3 hb4
        clear hb4 hb3 B3
        go_wp2_with fail
        refine (alive_any _ (HT.out.below B4)).mono ?_
        rintro e w5 ⟨rfl, hb5⟩
        go_wp2_with fail
        go_ret
        exact ⟨rfl, carry B4 hb5⟩
end Go.Proofs.YtnjlfoncgkdkcaaDoor
