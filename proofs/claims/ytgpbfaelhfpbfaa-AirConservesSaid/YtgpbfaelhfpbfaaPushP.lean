/- Push of the program: contract. -/
import Derived.Test.YtgpbfaelhfpbfaaPush
namespace Go.Proofs.Ytgpbfaelhfpbfaa
open Go.RowKit

theorem part_at (A B : Option Addr) (c d : Nat) (a b : List Pkt) (n : Nat) (hn : n < 2) (w wr : World) (ha : a.length ≤ 2000) (hb : b.length ≤ 2000) (hA : Rd w w.heap.size A a) (hB : Rd w w.heap.size B b)
    (hk : Blk wr w.heap.size 22 #[.slice A a.length c, .slice B b.length d]) :
    ∃ X e, wr.cell? ⟨w.heap.size, n, none⟩ = some (.slice X (partL a b n).length e) ∧ Rd w w.heap.size X (partL a b n) ∧ (partL a b n).length ≤ 2000 := by
  rcases (show n = 0 ∨ n = 1 by omega) with rfl | rfl
  · exact ⟨A, c, hk.cell 0, hA, ha⟩
  · exact ⟨B, d, hk.cell 1, hB, hb⟩
theorem pre_end (a b : List Pkt) : preL a b 2 = a ++ b := rfl
theorem full_of (a b : List Pkt) (n k : Nat) (hn : n < 2) (h : (preL a b n ++ (partL a b n).take k).length = 64) : pushL a b = preL a b n ++ (partL a b n).take k := by
  obtain ⟨y, hy⟩ := pre_prefix a b n hn
  refine push_full a b _ ((partL a b n).drop k ++ y) ?_ h
  rw [hy]
  simp only [List.append_assoc]
  rw [← List.append_assoc ((partL a b n).take k), List.take_append_drop]

set_option maxHeartbeats 4000000 in
theorem push_any (A B : Option Addr) (c d : Nat) (a b : List Pkt) (w : World) (ha : a.length ≤ 2000) (hb : b.length ≤ 2000) (hA : Rd w w.heap.size A a) (hB : Rd w w.heap.size B b) :
    Calls Try.prog 13 #[.slice A a.length c, .slice B b.length d] w (Gives (pushL a b) w) := by
  have HA := Lib.hid hA
  have HB := Lib.hid hB
  clear hA hB
  go_enter Try.func13, Try.ntmps13
  go_wp2
  go_loopw [5, 14] (fun v j wr => OutRel a b A B c d w v j wr) (fun _ j _ => 2 - (intOf j).toNat)
  case atStart => exact ⟨0, by omega, rfl, by simp [preL], Own.nil _ _, Blk.new _ _ _, (Below.refl _ _).alloc (Nat.le_refl _) _⟩
  case round =>
    obtain ⟨n, hn, rfl, h64, hown, hblk, hbel⟩ := hrel
    obtain ⟨wo, rfl⟩ : ∃ wo : World, wo = wr := ⟨_, rfl⟩
    by_cases hn2 : n < 2
    · obtain ⟨X, e, hcell, hX, hXl⟩ := part_at A B c d a b n hn2 w wo ha hb HA.out HB.out hblk
      have HX := Lib.hid hX
      clear hX
      have hnb : decide ((n : Int) < 2) = true := by simp; omega
      go_wp2
      go_loopw [5, 20] (fun v i wr => InRel (preL a b n) (partL a b n) #[.slice A a.length c, .slice B b.length d] w v i wr) (fun _ i _ => (partL a b n).length - (intOf i).toNat)
      case atStart => exact ⟨0, Nat.zero_le _, rfl, by simpa using h64, by simpa using hown, hblk, hbel⟩
      case round =>
        clear hown hblk hcell hbel
        obtain ⟨k, hk, rfl, hk64, hown, hblk, hbel⟩ := hrel
        have hz := hbel.size
        have hz1 := hblk.lt
        by_cases hlt : k < (partL a b n).length
        · obtain ⟨xb, xo, rfl, hxb, c0, c1, c2, c3⟩ := (HX.out.below hbel).at_ hlt
          obtain ⟨A', c', rfl⟩ := hown.slice
          by_cases hfull : (preL a b n ++ (partL a b n).take k).length = 64
          · have hF := Lib.hid (full_of a b n k hn2 hfull)
            have ht : (((preL a b n ++ (partL a b n).take k).length : Int) == 64) = true := by simp only [beq_iff_eq]; omega
            generalize hN : (preL a b n ++ (partL a b n).take k).length = N at *
            subst hfull
            clear ht
            go_wp2
            go_ret
            exact ⟨_, rfl, by rw [hF.out]; exact (hown.alloc _).mono (by omega), hbel.alloc hz _⟩
          · have ht : (((preL a b n ++ (partL a b n).take k).length : Int) == 64) = false := by rw [beq_eq_false_iff_ne]; omega
            generalize hN : (preL a b n ++ (partL a b n).take k).length = N at *
            have HN := Lib.hid hN
            clear hN
            go_wp2_with (first | (at_builtin; refine wpList_app _ rfl _ _ rfl (w.heap.size + 1) _ _ rfl ((hown.alloc _).alloc _) _ _ _ [(partL a b n)[k]] rfl rfl (Rd.one_at _ _ _ _ (by simp) (by simp)) (by rw [HN.out]; simp; omega) (by simp; omega) ?_; intro A2 n2 cc w1 hn' hown' hgrow hat; clear hn'))
            go_roundw
            case rel =>
              have e1 := take_snoc (partL a b n) k hlt
              have e2 := HN.out
              refine ⟨k + 1, by omega, by go_num, ?_, ?_, ((hblk.alloc _).alloc _).grown hgrow (fun e => by have := (hown.lt _ e.symm).1; omega), ((hbel.alloc hz _).alloc (by simp; omega) _).grown hgrow (by simp; omega) (fun j hj => by have := (hown.lt j hj).1; omega)⟩
              · rw [e1, ← List.append_assoc, List.length_append, e2]; simp; omega
              · rw [e1, ← List.append_assoc]; exact hown'
            case measure => simp [intOf]; omega
        · obtain rfl : k = (partL a b n).length := by omega
          rw [List.take_length, pre_part a b n hn2] at hk64 hown
          go_wp2
          go_roundw
          case rel => exact ⟨n + 1, by omega, by go_num, hk64, hown, hblk, hbel⟩
          case measure => simp [intOf]; omega
    · obtain rfl : n = 2 := by omega
      have hp := Lib.hid (push_all a b h64)
      rw [pre_end] at hown
      go_wp2
      go_ret
      exact ⟨_, rfl, by rw [hp.out]; exact hown.mono (by omega), hbel⟩
end Go.Proofs.Ytgpbfaelhfpbfaa
