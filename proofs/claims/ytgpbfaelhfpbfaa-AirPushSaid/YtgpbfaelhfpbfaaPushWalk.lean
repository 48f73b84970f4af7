/- The walk of AirPush. -/
import Derived.Test.YtgpbfaelhfpbfaaPartsWalk
namespace Go.Proofs.Ytgpbfaelhfpbfaa
open Go.RowKit
theorem push_s (A B : Option Addr) (c d : Nat) (a b : List Pkt) (w : World) (ha : a.length ≤ 2000) (hb : b.length ≤ 2000) (hA : Rd w w.heap.size A a) (hB : Rd w w.heap.size B b) :
    Calls Try.prog 13 #[.slice A a.length c, .slice B b.length d] w (GivesS (pushL a b) w) := (push_any A B c d a b w ha hb hA hB).mono fun _ _ h => h.toS
theorem run_hi (A : Option Addr) (n c : Nat) (k : Int) (W : World) (h0 : 0 ≤ k) (hk : k ≤ c) : (Instr.slice 22 (.slice A n c) none (some (.int .i64 k)) none).run Try.prog W = .ok (.slice A k.toNat c) W := by
  go_simp
theorem run_lo (A : Option Addr) (n c : Nat) (k : Int) (W : World) (h0 : 0 ≤ k) (hk : k ≤ n) : (Instr.slice 22 (.slice A n c) (some (.int .i64 k)) none none).run Try.prog W = .ok (.slice (if c = k.toNat then A else A.map (·.add (k.toNat * 4))) (n - k.toNat) (c - k.toNat)) W := by
  go_simp
theorem Rd.cut {w : World} {B : Nat} {A : Option Addr} {l : List Pkt} (h : Rd w B A l) (k c : Nat) (hc : l.length ≤ c) : Rd w B (if c = k then A else A.map (·.add (k * 4))) (l.drop k) := fun hn => by
  simp at hn
  obtain ⟨b, off, rfl, hb, hcell⟩ := h (by omega)
  rw [if_neg (by omega)]
  have ha : (⟨b, off, none⟩ : Addr).add (k * 4) = ⟨b, off + k * 4, none⟩ := by unfold Addr.add; split <;> simp_all
  refine ⟨b, off + k * 4, by simp [ha], hb, fun i p hp => ?_⟩
  rw [List.getElem?_drop] at hp
  have := hcell (k + i) p hp
  rw [show off + (k + i) * 4 = off + k * 4 + i * 4 by omega] at this
  exact this
theorem push_take (a b : List Pkt) (K : Nat) (h1 : K ≤ a.length) (h2 : K ≤ 64) : (pushL a b).take K = a.take K := by
  unfold pushL; rw [List.take_take, Nat.min_eq_left h2, List.take_append_of_le_length h1]
theorem push_drop (a b : List Pkt) (K M : Nat) (h : K = a.length ∧ M = min b.length (64 - K) ∧ K ≤ 64 ∨ K = 64 ∧ 64 ≤ a.length ∧ M = 0) : (pushL a b).drop K = b.take M := by
  unfold pushL
  rcases h with ⟨rfl, rfl, h⟩ | ⟨rfl, h, rfl⟩
  · rw [List.take_append, List.take_of_length_le h, List.drop_left, List.take_eq_take_iff]; omega
  · simp

set_option maxHeartbeats 16000000 in
theorem pushLaw_walk (A B : Option Addr) (c d : Nat) (a b : List Pkt) (w : World) (ha : a.length ≤ maxLen) (hb : b.length ≤ maxLen) (hc : a.length ≤ c) (hd : b.length ≤ d) (hA : Rd w w.heap.size A a) (hB : Rd w w.heap.size B b) :
    Calls Try.prog 4 #[.slice A a.length c, .slice B b.length d] w fun e w' => e = .returned (.bool true) ∧ Below w.heap.size w w' := by
  have HA := Lib.hid hA
  have HB := Lib.hid hB
  have HLA := Lib.hid ha
  have HLB := Lib.hid hb
  clear hA hB ha hb
  go_enter Try.func4, Try.ntmps4
  go_wp2_with fail
  refine (few_any A c a _ HLA.out HA.out).mono ?_
  rintro e w1 ⟨rfl, B1⟩
  cases hfa : fewB a
  · go_wp2_with fail
    refine (alive_any _).mono ?_
    rintro e w2 ⟨rfl, hb2⟩
    go_wp2_with fail
    go_ret
    exact ⟨rfl, carry B1 hb2⟩
  have ha := few_len hfa
  clear hfa
  go_wp2_with fail
  refine (few_any B d b _ HLB.out (HB.out.at_world B1)).mono ?_
  rintro e w2 ⟨rfl, hb2⟩
  have B2 := carry B1 hb2
  clear B1 hb2
  cases hfb : fewB b
  · go_wp2_with fail
    refine (alive_any _).mono ?_
    rintro e w2 ⟨rfl, hb2⟩
    go_wp2_with fail
    go_ret
    exact ⟨rfl, carry B2 hb2⟩
  have hb := few_len hfb
  clear hfb
  go_wp2_with fail
  refine (push_s A B c d a b _ (by omega) (by omega) (HA.out.at_world B2) (HB.out.at_world B2)).mono ?_
  rintro e w3 ⟨A3, c3, rfl, ho3, hb3⟩
  have B3 := carry B2 hb3
  clear hb3 B2
  obtain ⟨n3, Hn3⟩ : ∃ n3, Hid ((pushL a b).length = n3) := ⟨_, rfl⟩
  have hn3 : n3 = min (a.length + b.length) 64 := by rw [← Hn3.out]; unfold pushL; simp [Nat.min_comm]
  rw [Hn3.out]
  rw [Hn3.out] at ho3
  have hcap := ho3.cap
  obtain ⟨la, hla⟩ : ∃ la, la = a.length := ⟨_, rfl⟩
  obtain ⟨lb, hlb⟩ : ∃ lb, lb = b.length := ⟨_, rfl⟩
  rw [← hla, ← hlb]
  rw [← hla, ← hlb] at hn3
  rw [← hla] at ha hc
  rw [← hlb] at hb hd
  have Hla := Lib.hid hla
  have Hlb := Lib.hid hlb
  clear hla hlb
  rcases (show (la + lb ≤ 64 ∧ n3 = la + lb) ∨ (64 < la + lb ∧ la ≤ 64 ∧ n3 = 64) ∨ (64 < la ∧ n3 = 64) by omega) with ⟨h1, h2⟩ | ⟨h1, h2, h3⟩ | ⟨h1, h2⟩
  · subst h2
    clear hn3
    have KA : la ≤ a.length := by rw [← Hla.out]; omega
    have HE1 := Lib.hid (push_take a b la KA (by omega))
    have HE2 := Lib.hid (push_drop a b la (la + lb - la) (by rw [← Hla.out, ← Hlb.out]; omega))
    have L1 : Hid ((a.take la).length = la) := by show (a.take la).length = la; rw [List.length_take, ← Hla.out]; omega
    have L2 : Hid ((b.take (la + lb - la)).length = la + lb - la) := by show (b.take (la + lb - la)).length = la + lb - la; rw [List.length_take, ← Hlb.out]; omega
    have RP : Hid (Rd w3 w3.heap.size A3 (a.take la)) := by show Rd w3 w3.heap.size A3 (a.take la); rw [← HE1.out]; exact ho3.rd.take la
    obtain ⟨X, HX⟩ : ∃ X, Hid (X = (if c3 = la then A3 else A3.map (·.add (la * 4)))) := ⟨_, rfl⟩
    have RX : Hid (Rd w3 w3.heap.size X (b.take (la + lb - la))) := by
      show Rd w3 w3.heap.size X (b.take (la + lb - la))
      rw [HX.out, ← HE2.out]; exact ho3.rd.cut la c3 (by rw [Hn3.out]; exact hcap)
    have RA : Hid (Rd w3 w3.heap.size A (a.take la)) := (HA.out.at_world B3).take la
    have RB : Hid (Rd w3 w3.heap.size B (b.take (la + lb - la))) := (HB.out.at_world B3).take _
    have i0 : (0 : Int) ≤ (la : Int) := by omega
    have i1 : (la : Int) ≤ (c3 : Int) := by omega
    have i2 : (la : Int) ≤ (c : Int) := by omega
    have i3 : (la : Int) ≤ ((la + lb : Nat) : Int) := by omega
    have s3 : ∀ W : World, (Instr.slice 22 (.slice A3 (la + lb) c3) (some (.int .i64 (la : Int))) none none).run Try.prog W = .ok (.slice X (la + lb - la) (c3 - la)) W := fun W => by
      rw [run_lo A3 (la + lb) c3 (la : Int) W (by omega) (by omega), show ((la : Int)).toNat = la by omega, HX.out]
    have j1 : IntKind.i64.wrap ((la : Int) + (lb : Int) - (la : Int)) = (lb : Int) := by rw [IntKind.wrap_i64]; omega
    have j2 : IntKind.i64.wrap (lb : Int) = (lb : Int) := by rw [IntKind.wrap_i64]; omega
    have j3 : (0 : Int) ≤ (lb : Int) := by omega
    have j4 : (lb : Int) ≤ (d : Int) := by omega
    clear ho3 HE1 HE2
    go_wp2_with fail
    go_region_held3 (fun w' => Below w3.heap.size w3 w')
      (first | exact (Below.refl _ _).drew | exact carry (by assumption) hb')
      (first
        | (go_at_call 11; (with_reducible refine (same_n A3 A _ _ _ _ (a.take la) (a.take la) _ ?_ ?_ ?_ ?_ ?_).mono ?_); (exact L1.out.trans (by simp)); (exact L1.out.trans (by simp)); (rw [L1.out]; omega); (exact RP.out.at_world (by assumption)); (exact RA.out.at_world (by assumption)); rintro e w4 ⟨rfl, hb'⟩; rw [eqL_self])
        | (go_at_call 11; (with_reducible refine (same_n X B _ _ _ _ (b.take (la + lb - la)) (b.take (la + lb - la)) _ ?_ ?_ ?_ ?_ ?_).mono ?_); (exact L2.out.trans (by first | rfl | omega | (simp; done) | (simp; omega))); (exact L2.out.trans (by first | rfl | omega | (simp; done) | (simp; omega))); (rw [L2.out]; omega); (exact RX.out.at_world (by assumption)); (exact RB.out.at_world (by assumption)); rintro e w4 ⟨rfl, hb'⟩; rw [eqL_self])
        | (go_at_call 9; refine (alive_any _).mono ?_; rintro e w4 ⟨rfl, hb'⟩))
    go_wp2
    go_ret
    exact ⟨rfl, carry B3 (by assumption)⟩
  · subst h3
    clear hn3
    have KA : la ≤ a.length := by rw [← Hla.out]; omega
    have HE1 := Lib.hid (push_take a b la KA (by omega))
    have HE2 := Lib.hid (push_drop a b la (64 - la) (by rw [← Hla.out, ← Hlb.out]; omega))
    have L1 : Hid ((a.take la).length = la) := by show (a.take la).length = la; rw [List.length_take, ← Hla.out]; omega
    have L2 : Hid ((b.take (64 - la)).length = 64 - la) := by show (b.take (64 - la)).length = 64 - la; rw [List.length_take, ← Hlb.out]; omega
    have RP : Hid (Rd w3 w3.heap.size A3 (a.take la)) := by show Rd w3 w3.heap.size A3 (a.take la); rw [← HE1.out]; exact ho3.rd.take la
    obtain ⟨X, HX⟩ : ∃ X, Hid (X = (if c3 = la then A3 else A3.map (·.add (la * 4)))) := ⟨_, rfl⟩
    have RX : Hid (Rd w3 w3.heap.size X (b.take (64 - la))) := by
      show Rd w3 w3.heap.size X (b.take (64 - la))
      rw [HX.out, ← HE2.out]; exact ho3.rd.cut la c3 (by rw [Hn3.out]; exact hcap)
    have RA : Hid (Rd w3 w3.heap.size A (a.take la)) := (HA.out.at_world B3).take la
    have RB : Hid (Rd w3 w3.heap.size B (b.take (64 - la))) := (HB.out.at_world B3).take _
    have i0 : (0 : Int) ≤ (la : Int) := by omega
    have i1 : (la : Int) ≤ (c3 : Int) := by omega
    have i2 : (la : Int) ≤ (c : Int) := by omega
    have i3 : (la : Int) ≤ ((64 : Nat) : Int) := by omega
    have s3 : ∀ W : World, (Instr.slice 22 (.slice A3 (64) c3) (some (.int .i64 (la : Int))) none none).run Try.prog W = .ok (.slice X (64 - la) (c3 - la)) W := fun W => by
      rw [run_lo A3 (64) c3 (la : Int) W (by omega) (by omega), show ((la : Int)).toNat = la by omega, HX.out]
    have j1 : IntKind.i64.wrap ((64 : Int) - (la : Int)) = (64 : Int) - (la : Int) := by rw [IntKind.wrap_i64]; omega
    have j3 : (0 : Int) ≤ (64 : Int) - (la : Int) := by omega
    have j4 : (64 : Int) - (la : Int) ≤ (d : Int) := by omega
    have j5 : ((64 : Int) - (la : Int)).toNat = 64 - la := by omega
    have j6 : ∀ W : World, (Instr.slice 22 (.slice B lb d) none (some (.int .i64 ((64 : Int) - (la : Int)))) none).run Try.prog W = .ok (.slice B (64 - la) d) W := fun W => by
      rw [run_hi B lb d _ W j3 j4, j5]
    have j7 : (la : Int) ≤ 64 := by omega
    clear j3 j4
    clear ho3 HE1 HE2
    go_wp2_with fail
    go_region_held3 (fun w' => Below w3.heap.size w3 w')
      (first | exact (Below.refl _ _).drew | exact carry (by assumption) hb')
      (first
        | (go_at_call 11; (with_reducible refine (same_n A3 A _ _ _ _ (a.take la) (a.take la) _ ?_ ?_ ?_ ?_ ?_).mono ?_); (exact L1.out.trans (by simp)); (exact L1.out.trans (by simp)); (rw [L1.out]; omega); (exact RP.out.at_world (by assumption)); (exact RA.out.at_world (by assumption)); rintro e w4 ⟨rfl, hb'⟩; rw [eqL_self])
        | (go_at_call 11; (with_reducible refine (same_n X B _ _ _ _ (b.take (64 - la)) (b.take (64 - la)) _ ?_ ?_ ?_ ?_ ?_).mono ?_); (exact L2.out.trans (by first | rfl | omega | (simp; done) | (simp; omega))); (exact L2.out.trans (by first | rfl | omega | (simp; done) | (simp; omega))); (rw [L2.out]; omega); (exact RX.out.at_world (by assumption)); (exact RB.out.at_world (by assumption)); rintro e w4 ⟨rfl, hb'⟩; rw [eqL_self])
        | (go_at_call 9; refine (alive_any _).mono ?_; rintro e w4 ⟨rfl, hb'⟩))
    go_wp2
    go_ret
    exact ⟨rfl, carry B3 (by assumption)⟩
  · subst h2
    clear hn3
    have KA : 64 ≤ a.length := by rw [← Hla.out]; omega
    have HE1 := Lib.hid (push_take a b 64 KA (by omega))
    have HE2 := Lib.hid (push_drop a b 64 (64 - 64) (by rw [← Hla.out, ← Hlb.out]; omega))
    have L1 : Hid ((a.take 64).length = 64) := by show (a.take 64).length = 64; rw [List.length_take, ← Hla.out]; omega
    have L2 : Hid ((b.take (64 - 64)).length = 64 - 64) := by show (b.take (64 - 64)).length = 64 - 64; rw [List.length_take, ← Hlb.out]; omega
    have RP : Hid (Rd w3 w3.heap.size A3 (a.take 64)) := by show Rd w3 w3.heap.size A3 (a.take 64); rw [← HE1.out]; exact ho3.rd.take 64
    obtain ⟨X, HX⟩ : ∃ X, Hid (X = (if c3 = 64 then A3 else A3.map (·.add (64 * 4)))) := ⟨_, rfl⟩
    have RX : Hid (Rd w3 w3.heap.size X (b.take (64 - 64))) := by
      show Rd w3 w3.heap.size X (b.take (64 - 64))
      rw [HX.out, ← HE2.out]; exact ho3.rd.cut 64 c3 (by rw [Hn3.out]; exact hcap)
    have RA : Hid (Rd w3 w3.heap.size A (a.take 64)) := (HA.out.at_world B3).take 64
    have RB : Hid (Rd w3 w3.heap.size B (b.take (64 - 64))) := (HB.out.at_world B3).take _
    have i0 : (0 : Int) ≤ (64 : Int) := by omega
    have i1 : (64 : Int) ≤ (c3 : Int) := by omega
    have i2 : (64 : Int) ≤ (c : Int) := by omega
    have i3 : (64 : Int) ≤ ((64 : Nat) : Int) := by omega
    have s3 : ∀ W : World, (Instr.slice 22 (.slice A3 (64) c3) (some (.int .i64 (64 : Int))) none none).run Try.prog W = .ok (.slice X (64 - 64) (c3 - 64)) W := fun W => by
      rw [run_lo A3 (64) c3 (64 : Int) W (by omega) (by omega), show ((64 : Int)).toNat = 64 by omega, HX.out]
    have j1 : IntKind.i64.wrap ((64 : Int) - 64) = 0 := by rw [IntKind.wrap_i64]; omega
    have j2 : IntKind.i64.wrap (0 : Int) = 0 := by rw [IntKind.wrap_i64]; omega
    have j4 : (0 : Int) ≤ (d : Int) := by omega
    clear ho3 HE1 HE2
    go_wp2_with fail
    go_region_held3 (fun w' => Below w3.heap.size w3 w')
      (first | exact (Below.refl _ _).drew | exact carry (by assumption) hb')
      (first
        | (go_at_call 11; (with_reducible refine (same_n A3 A _ _ _ _ (a.take 64) (a.take 64) _ ?_ ?_ ?_ ?_ ?_).mono ?_); (exact L1.out.trans (by simp)); (exact L1.out.trans (by simp)); (rw [L1.out]; omega); (exact RP.out.at_world (by assumption)); (exact RA.out.at_world (by assumption)); rintro e w4 ⟨rfl, hb'⟩; rw [eqL_self])
        | (go_at_call 11; (with_reducible refine (same_n X B _ _ _ _ (b.take (64 - 64)) (b.take (64 - 64)) _ ?_ ?_ ?_ ?_ ?_).mono ?_); (exact L2.out.trans (by first | rfl | omega | (simp; done) | (simp; omega))); (exact L2.out.trans (by first | rfl | omega | (simp; done) | (simp; omega))); (rw [L2.out]; omega); (exact RX.out.at_world (by assumption)); (exact RB.out.at_world (by assumption)); rintro e w4 ⟨rfl, hb'⟩; rw [eqL_self])
        | (go_at_call 9; refine (alive_any _).mono ?_; rintro e w4 ⟨rfl, hb'⟩))
    go_wp2
    go_ret
    exact ⟨rfl, carry B3 (by assumption)⟩
end Go.Proofs.Ytgpbfaelhfpbfaa
