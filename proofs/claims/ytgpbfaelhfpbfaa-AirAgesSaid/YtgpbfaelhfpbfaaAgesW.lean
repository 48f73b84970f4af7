/- The walk of AirAges. -/
import Derived.Test.YtgpbfaelhfpbfaaFliesW
namespace Go.Proofs.Ytgpbfaelhfpbfaa
open Go.RowKit

theorem remF_mem (zs : List Int) (l : List Pkt) : ∀ i, ∀ p ∈ remF zs i l, ∃ q ∈ l, p = q.older ∧ q.a < 4 := by
  induction l with
  | nil => intro i p hp; simp [remF] at hp
  | cons x l ih =>
    intro i p hp
    simp only [remF, List.mem_append] at hp
    rcases hp with hp | hp
    · split at hp
      · rename_i h
        simp at hp
        exact ⟨x, by simp, hp, h.2⟩
      · simp at hp
    · obtain ⟨q, hq, h⟩ := ih (i + 1) p hp
      exact ⟨q, by simp [hq], h⟩
def LeastRel (a : List Pkt) (w : World) (v i : Value) (wr : World) : Prop :=
  ∃ (k : Nat) (m : Int), k ≤ a.length ∧ i = .int .i64 k ∧ v = .int .i64 m ∧ -20 ≤ m ∧ m ≤ 4 ∧ (∀ p ∈ a.take k, m ≤ p.a) ∧ Below w.heap.size w wr
/-- The list is what is left after j flights. -/
def Left (m : Int) (j : Nat) (l : List Pkt) : Prop := ∀ p ∈ l, p.Ok ∧ m + j ≤ p.a ∧ (0 < j → p.a ≤ 4)
theorem Left.step {m : Int} {j : Nat} {l : List Pkt} (h : Left m j l) (zs : List Int) : Left m (j + 1) (remF zs 0 l) := fun p hp => by
  obtain ⟨q, hq, rfl, h4⟩ := remF_mem zs l 0 p hp
  obtain ⟨⟨o1, o2, o3, o4⟩, h1, _⟩ := h q hq
  refine ⟨⟨o1, o2, ?_, o4⟩, ?_, fun _ => ?_⟩ <;> simp only [Pkt.older, InI] at * <;> omega
theorem Left.none {m : Int} {j : Nat} {l : List Pkt} (h : Left m j l) (hm : m ≤ 4) (hj : 5 - m ≤ j) : l.length = 0 := by
  cases l with
  | nil => rfl
  | cons p l => obtain ⟨_, h1, h2⟩ := h p (by simp); have := h2 (by omega); omega
def LeftRel (m : Int) (w : World) (v i : Value) (wr : World) : Prop :=
  ∃ (j : Nat) (A : Option Addr) (n c : Nat) (l : List Pkt), (j : Int) ≤ 5 - m ∧ i = .int .i64 j ∧ v = .slice A n c ∧ l.length = n ∧ n ≤ 100 ∧ Left m j l ∧ Rd wr wr.heap.size A l ∧ Below w.heap.size w wr
theorem take_mem (l : List Pkt) (k : Nat) (h : k < l.length) (P : Pkt → Prop) (ha : ∀ p ∈ l.take k, P p) (hp : P l[k]) : ∀ p ∈ l.take (k + 1), P p := by
  rw [take_snoc l k h]
  intro p hm
  rcases List.mem_append.1 hm with h | h
  · exact ha p h
  · simp at h; subst h; exact hp

set_option maxHeartbeats 16000000 in
theorem ages_walk (A F : Option Addr) (n f c g : Nat) (a : List Pkt) (zs : List Int) (w : World) (hn : a.length = n) (hf : zs.length = f) (ha : n ≤ maxLen) (oka : ∀ p ∈ a, p.Ok) (hA : Rd w w.heap.size A a) (hF : RdI w w.heap.size F zs) :
    Calls Try.prog 7 #[.slice A n c, .slice F f g] w fun e w' => e = .returned (.bool true) ∧ Below w.heap.size w w' := by
  have HA := Lib.hid hA
  have HF := Lib.hid hF
  have OA := Lib.hid oka
  have HLA := Lib.hid ha
  have Hn := Lib.hid hn
  have Hf := Lib.hid hf
  clear hA hF oka ha hn hf
  go_enter Try.func7, Try.ntmps7
  go_wp2_with fail
  refine (few_n A n c a _ Hn.out HLA.out HA.out).mono ?_
  rintro e w1 ⟨rfl, B1⟩
  cases hfa : fewB a
  · go_wp2_with fail
    refine (alive_any _).mono ?_
    rintro e w2 ⟨rfl, hb2⟩
    go_wp2_with fail
    go_ret
    exact ⟨rfl, carry B1 hb2⟩
  clear hfa
  by_cases ha : n ≤ 100
  case neg =>
    have ha' : (100 : Int) < (n : Int) := by omega
    clear ha
    go_wp2_with fail
    refine (alive_any _).mono ?_
    rintro e w2 ⟨rfl, hb2⟩
    go_wp2_with fail
    go_ret
    exact ⟨rfl, carry B1 hb2⟩
  go_wp2_with fail
  go_loopw [5, 20] (fun v i wr => LeastRel a w v i wr) (fun _ i _ => n - (intOf i).toNat)
  case atStart => exact ⟨0, 4, Nat.zero_le _, rfl, rfl, by omega, by omega, by simp, B1⟩
  case round =>
    clear B1
    obtain ⟨k, m, hk, rfl, rfl, hm1, hm2, hall, hbel⟩ := hrel
    rw [Hn.out] at hk
    have Hall := Lib.hid hall
    clear hall
    have hz := hbel.size
    by_cases hlt : k < n
    · have hlt' : k < a.length := by rw [Hn.out]; exact hlt
      obtain ⟨xb, xo, rfl, hxb, c0, c1, c2, c3⟩ := (HA.out.below hbel).at_ hlt'
      by_cases h20 : a[k].a < -20
      · go_wp2_with fail
        refine (alive_any _).mono ?_
        rintro e w2 ⟨rfl, hb2⟩
        go_wp2_with fail
        go_ret
        exact ⟨rfl, carry (hbel.alloc hz _) hb2⟩
      by_cases hmin : m ≤ a[k].a
      · go_wp2_with fail
        go_roundw
        case rel => exact ⟨k + 1, m, by rw [Hn.out]; omega, by go_num, by first | rfl | rw [if_neg (by omega)], hm1, hm2, take_mem a k hlt' (fun p => m ≤ p.a) Hall.out hmin, hbel.alloc hz _⟩
        case measure => simp [intOf]; omega
      · go_wp2_with fail
        go_roundw
        case rel => exact ⟨k + 1, a[k].a, by rw [Hn.out]; omega, by go_num, by first | rfl | rw [if_pos (by omega)], by omega, by omega, take_mem a k hlt' (fun p => a[k].a ≤ p.a) (fun p hp => by have := Hall.out p hp; omega) (by omega), hbel.alloc hz _⟩
        case measure => simp [intOf]; omega
    · have hke : k = n := by omega
      subst hke
      have HL : Hid (Left m 0 a) := fun p hp => ⟨OA.out p hp, by have := Hall.out p (by rw [List.take_of_length_le (by rw [Hn.out]; omega)]; exact hp); omega, fun h => by omega⟩
      clear hlt Hall
      have s1 : IntKind.i64.wrap (4 - m) = 4 - m := by rw [IntKind.wrap_i64]; omega
      have s2 : IntKind.i64.wrap (4 - m + 1) = 5 - m := by rw [IntKind.wrap_i64]; omega
      go_wp2_with fail
      go_loopw [0, 36] (fun v i wr => LeftRel m w v i wr) (fun _ i _ => (5 - m).toNat - (intOf i).toNat)
      case atStart => exact ⟨0, A, k, c, a, by omega, rfl, rfl, Hn.out, ha, HL.out, HA.out.at_world hbel, hbel⟩
      case round =>
        clear hbel hz
        obtain ⟨j, A', n', c', l, hj, rfl, rfl, hn', h100, hleft, hR, hbel⟩ := hrel
        have HL' := Lib.hid hleft
        have Hn' := Lib.hid hn'
        clear hleft hn' HL
        by_cases hlt : (j : Int) < 5 - m
        · have i1 : decide ((j : Int) < 5 - m) = true := decide_eq_true hlt
          go_wp2_with fail
          refine (fly_n A' F n' f c' g l zs _ Hn'.out Hf.out (by omega) (fun p hp => (HL'.out p hp).1) hR (HF.out.at_world hbel)).mono ?_
          rintro e w3 ⟨X, x, xc, Y, y, yc, rfl, hx, hy, rx, ry, hb3⟩
          have hle : y ≤ n' := by rw [← hy, ← Hn'.out]; exact remF_len zs l 0
          have hle' : ¬ ((n' : Int) < (y : Int)) := by omega
          have i2 : decide ((n' : Int) < (y : Int)) = false := decide_eq_false hle'
          have Hy := Lib.hid hy
          clear hx hy rx
          go_wp2_with fail
          go_roundw
          case rel => exact ⟨j + 1, Y, y, yc, remF zs 0 l, by omega, by go_num, rfl, Hy.out, by omega, HL'.out.step zs, ry, carry hbel hb3⟩
          case measure => simp [intOf]; omega
        · have i1 : decide ((j : Int) < 5 - m) = false := decide_eq_false hlt
          have h0 : n' = 0 := by rw [← Hn'.out]; exact HL'.out.none hm2 (by omega)
          subst h0
          go_wp2_with fail
          refine (alive_any _).mono ?_
          rintro e w2 ⟨rfl, hb2⟩
          go_wp2_with fail
          go_ret
          exact ⟨rfl, carry hbel hb2⟩
end Go.Proofs.Ytgpbfaelhfpbfaa
