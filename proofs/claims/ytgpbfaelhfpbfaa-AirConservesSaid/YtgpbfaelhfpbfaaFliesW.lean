/- The walk of AirFlies. -/
import Derived.Test.YtgpbfaelhfpbfaaPartsWalk
namespace Go.Proofs.Ytgpbfaelhfpbfaa
open Go.RowKit

/-- What a call gives back, with the length as a name. -/
def GivesM (out : List Pkt) (w : World) (e : Ending) (w' : World) : Prop :=
  ∃ A n c, e = .returned (.slice A n c) ∧ out.length = n ∧ Rd w' w'.heap.size A out ∧ Below w.heap.size w w'
def GivesM2 (out out2 : List Pkt) (w : World) (e : Ending) (w' : World) : Prop :=
  ∃ A n c A2 n2 c2, e = .returned (.tuple #[.slice A n c, .slice A2 n2 c2]) ∧ out.length = n ∧ out2.length = n2 ∧ Rd w' w'.heap.size A out ∧ Rd w' w'.heap.size A2 out2 ∧ Below w.heap.size w w'
theorem Gives.toN {out : List Pkt} {w : World} {e : Ending} {w' : World} (h : Gives out w e w') : GivesM out w e w' := by
  obtain ⟨v, he, ho, hb⟩ := h
  obtain ⟨A, c, rfl⟩ := ho.slice
  exact ⟨A, _, c, he, rfl, ho.rd, hb⟩
theorem Gives2.toN {out out2 : List Pkt} {w : World} {e : Ending} {w' : World} (h : Gives2 out out2 w e w') : GivesM2 out out2 w e w' := by
  obtain ⟨v, u, he, ho, ho2, hb⟩ := h
  obtain ⟨A, c, rfl⟩ := ho.slice
  obtain ⟨A2, c2, rfl⟩ := ho2.slice
  exact ⟨A, _, c, A2, _, c2, he, rfl, rfl, ho.rd, ho2.rd, hb⟩
theorem RdI.at_world {w W : World} {A : Option Addr} {l : List Int} (h : RdI w w.heap.size A l) (hB : Below w.heap.size w W) : RdI W W.heap.size A l := (h.below hB).more hB.size
section
variable (A B F : Option Addr) (n m f c d g : Nat) (a b : List Pkt) (zs : List Int) (to : Int) (w : World)
theorem fly_n (hn : a.length = n) (hf : zs.length = f) (hl : n ≤ 2000) (hok : ∀ p ∈ a, p.Ok) (hA : Rd w w.heap.size A a) (hF : RdI w w.heap.size F zs) :
    Calls Try.prog 14 #[.slice A n c, .slice F f g] w (GivesM2 (arrF zs 0 a) (remF zs 0 a) w) := by
  subst hn hf; exact (fly_any A F c g a zs w hl (fun p hp => (hok p hp).2.2.1) hA hF).mono fun _ _ h => h.toN
theorem flyR_n (hn : a.length = n) (hf : zs.length = f) (hl : n ≤ 2000) (hok : ∀ p ∈ a, p.Ok) (hA : Rd w w.heap.size A a) (hF : RdI w w.heap.size F zs) :
    Calls Try.prog 15 #[.slice A n c, .slice F f g] w (GivesM2 (arrF zs 0 a) (remF zs 0 a) w) := by
  subst hn hf; exact (flyR_any A F c g a zs w hl (fun p hp => (hok p hp).2.2.1) hA hF).mono fun _ _ h => h.toN
theorem push_n (hn : a.length = n) (hm : b.length = m) (ha : n ≤ 2000) (hb : m ≤ 2000) (hA : Rd w w.heap.size A a) (hB : Rd w w.heap.size B b) :
    Calls Try.prog 13 #[.slice A n c, .slice B m d] w (GivesM (pushL a b) w) := by
  subst hn hm; exact (push_any A B c d a b w ha hb hA hB).mono fun _ _ h => h.toN
theorem pushR_n (hn : a.length = n) (hm : b.length = m) (ha : n ≤ 2000) (hb : m ≤ 2000) (hA : Rd w w.heap.size A a) (hB : Rd w w.heap.size B b) :
    Calls Try.prog 16 #[.slice A n c, .slice B m d] w (GivesM (pushL a b) w) := by
  subst hn hm; exact (pushR_any A B c d a b w ha hb hA hB).mono fun _ _ h => h.toN
theorem forN_n (hn : a.length = n) (ha : n ≤ 2000) (hok : ∀ p ∈ a, p.Ok) (hA : Rd w w.heap.size A a) :
    Calls Try.prog 10 #[.slice A n c, .int .i64 to] w (GivesM (sel a to) w) := by
  subst hn; exact (for_any A c a to w ha (fun p hp => (hok p hp).2.1) hA).mono fun _ _ h => h.toN
theorem forR_n (hn : a.length = n) (ha : n ≤ 2000) (hA : Rd w w.heap.size A a) :
    Calls Try.prog 17 #[.slice A n c, .int .i64 to] w (GivesM (sel a to) w) := by
  subst hn; exact (forR_any A c a to w ha hA).mono fun _ _ h => h.toN
theorem few_n (hn : a.length = n) (ha : n ≤ maxLen) (hA : Rd w w.heap.size A a) :
    Calls Try.prog 8 #[.slice A n c] w fun e w' => e = .returned (.bool (fewB a)) ∧ Below w.heap.size w w' := by
  subst hn; exact few_any A c a w ha hA
theorem same_self (hn : a.length = n) (hm : a.length = m) (hl : a.length ≤ 2000) (hA : Rd w w.heap.size A a) (hB : Rd w w.heap.size B a) :
    Calls Try.prog 11 #[.slice A n c, .slice B m d] w fun e w' => e = .returned (.bool true) ∧ Below w.heap.size w w' := by
  have := same_n A B n m c d a a w hn hm hl hA hB
  rwa [eqL_self] at this
end
theorem push_len (a b : List Pkt) : (pushL a b).length ≤ 64 := by unfold pushL; exact List.length_take_le _ _

set_option maxHeartbeats 16000000 in
theorem flies_walk (A B F : Option Addr) (n m f c d g : Nat) (a b : List Pkt) (zs : List Int) (to : Int) (w : World) (hn : a.length = n) (hm : b.length = m) (hf : zs.length = f) (ha : n ≤ maxLen) (hb : m ≤ maxLen) (oka : ∀ p ∈ a, p.Ok) (hA : Rd w w.heap.size A a) (hB : Rd w w.heap.size B b) (hF : RdI w w.heap.size F zs) :
    Calls Try.prog 5 #[.slice A n c, .slice B m d, .slice F f g, .int .i64 to] w fun e w' => e = .returned (.bool true) ∧ Below w.heap.size w w' := by
  have HA := Lib.hid hA
  have HB := Lib.hid hB
  have HF := Lib.hid hF
  have OA := Lib.hid oka
  have HLA := Lib.hid ha
  have HLB := Lib.hid hb
  have Hn := Lib.hid hn
  have Hm := Lib.hid hm
  have Hf := Lib.hid hf
  clear hA hB hF oka ha hb hn hm hf
  go_enter Try.func5, Try.ntmps5
  go_wp2_with fail
  refine (few_n A n c a _ Hn.out HLA.out HA.out).mono ?_
  rintro e w1 ⟨rfl, B1⟩
  cases hfa : fewB a
  · go_wp2_with fail
    refine (alive_any _).mono ?_
    rintro e w2 ⟨rfl, hb2⟩
    go_wp2_with fail
    go_ret
    exact ⟨rfl, carry B1 hb2⟩
  have ha : n ≤ 300 := by rw [← Hn.out]; exact few_len hfa
  clear hfa
  go_wp2_with fail
  refine (few_n B m d b _ Hm.out HLB.out (HB.out.at_world B1)).mono ?_
  rintro e w2 ⟨rfl, hb2⟩
  have B2 := carry B1 hb2
  clear B1 hb2
  cases hfb : fewB b
  · go_wp2_with fail
    refine (alive_any _).mono ?_
    rintro e w2 ⟨rfl, hb2⟩
    go_wp2_with fail
    go_ret
    exact ⟨rfl, carry B2 hb2⟩
  have hb : m ≤ 300 := by rw [← Hm.out]; exact few_len hfb
  clear hfb
  go_wp2_with fail
  refine (fly_n A F n f c g a zs _ Hn.out Hf.out (by omega) OA.out (HA.out.at_world B2) (HF.out.at_world B2)).mono ?_
  rintro e w3 ⟨X, x, xc, Y, y, yc, rfl, hx, hy, rx, ry, hb3⟩
  have B3 := carry B2 hb3
  clear hb3 B2
  go_wp2_with fail
  refine (flyR_n A F n f c g a zs _ Hn.out Hf.out (by omega) OA.out (HA.out.at_world B3) (HF.out.at_world B3)).mono ?_
  rintro e w4 ⟨U, u, uc, V, v, vc, rfl, hu, hv, ru, rv, hb4⟩
  have B4 := carry B3 hb4
  have RX := Lib.hid (rx.at_world hb4)
  have RY := Lib.hid (ry.at_world hb4)
  have RU := Lib.hid ru
  have RV := Lib.hid rv
  have Hx := Lib.hid hx
  have Hy := Lib.hid hy
  have Hu := Lib.hid hu
  have Hv := Lib.hid hv
  clear hb4 B3 rx ry ru rv hx hy hu hv
  have LX : Hid ((arrF zs 0 a).length ≤ 2000) := Nat.le_trans (arrF_len zs a 0) (by rw [Hn.out]; omega)
  have LY : Hid ((remF zs 0 a).length ≤ 2000) := Nat.le_trans (remF_len zs a 0) (by rw [Hn.out]; omega)
  have LS : Hid ((sel a to).length ≤ 2000) := Nat.le_trans (List.length_filter_le _ _) (by rw [Hn.out]; omega)
  go_wp2_with fail
  refine (push_n A B n m c d a b _ Hn.out Hm.out (by omega) (by omega) (HA.out.at_world B4) (HB.out.at_world B4)).mono ?_
  rintro e w5 ⟨P, p, pc, rfl, hp, rp, hb5⟩
  have B5 := carry B4 hb5
  have Hp := Lib.hid hp
  have C5 := Lib.hid hb5
  clear hp hb5 B4
  go_wp2_with fail
  refine (pushR_n A B n m c d a b _ Hn.out Hm.out (by omega) (by omega) (HA.out.at_world B5) (HB.out.at_world B5)).mono ?_
  rintro e w6 ⟨Q, q, qc, rfl, hq, rq, hb6⟩
  have B6 := carry B5 hb6
  have C6 := Lib.hid (carry C5.out hb6)
  have RP := Lib.hid (rp.at_world hb6)
  have Hq := Lib.hid hq
  clear hb6 B5 rp C5 hq
  go_wp2_with fail
  refine (same_self P Q p q pc qc (pushL a b) _ Hp.out Hq.out (Nat.le_trans (push_len a b) (by omega)) RP.out rq).mono ?_
  rintro e w7 ⟨rfl, hb7⟩
  have B7 := carry B6 hb7
  have C7 := Lib.hid (carry C6.out hb7)
  clear hb7 B6 C6 rq RP Hp Hq
  go_wp2_with fail
  refine (same_self X U x u xc uc (arrF zs 0 a) _ Hx.out Hu.out LX.out (RX.out.at_world C7.out) (RU.out.at_world C7.out)).mono ?_
  rintro e w8 ⟨rfl, hb8⟩
  have B8 := carry B7 hb8
  have C8 := Lib.hid (carry C7.out hb8)
  clear hb8 B7 C7
  go_wp2_with fail
  refine (same_self Y V y v yc vc (remF zs 0 a) _ Hy.out Hv.out LY.out (RY.out.at_world C8.out) (RV.out.at_world C8.out)).mono ?_
  rintro e w9 ⟨rfl, hb9⟩
  have B9 := carry B8 hb9
  clear hb9 B8 C8
  go_wp2_with fail
  refine (forN_n A n c a to _ Hn.out (by omega) OA.out (HA.out.at_world B9)).mono ?_
  rintro e w10 ⟨R, r, rc, rfl, hr, rr, hb10⟩
  have B10 := carry B9 hb10
  have Hr := Lib.hid hr
  clear hb10 B9 hr
  go_wp2_with fail
  refine (forR_n A n c a to _ Hn.out (by omega) (HA.out.at_world B10)).mono ?_
  rintro e w11 ⟨T, t, tc, rfl, ht, rt, hb11⟩
  have B11 := carry B10 hb11
  have RR := Lib.hid (rr.at_world hb11)
  have Ht := Lib.hid ht
  clear hb11 B10 ht rr
  go_wp2_with fail
  refine (same_self R T r t rc tc (sel a to) _ Hr.out Ht.out LS.out RR.out rt).mono ?_
  rintro e w12 ⟨rfl, hb12⟩
  have B12 := carry B11 hb12
  clear hb12 B11 rt
  go_wp2_with fail
  refine (alive_any _).mono ?_
  rintro e w13 ⟨rfl, hb13⟩
  go_wp2_with fail
  go_ret
  exact ⟨rfl, carry B12 hb13⟩
end Go.Proofs.Ytgpbfaelhfpbfaa
