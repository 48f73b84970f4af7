/- Push of the program and of the reference: contracts. -/
import Derived.Test.YtgpbfaelhfpbfaaFlyR
namespace Go.Proofs.Ytgpbfaelhfpbfaa
open Go.RowKit

def pushL (a b : List Pkt) : List Pkt := (a ++ b).take 64
theorem Own.take {w : World} {base : Nat} {A : Option Addr} {n c : Nat} {l : List Pkt} (h : Own w base (.slice A n c) l) (k : Nat) (hk : k ≤ l.length) : Own w base (.slice A k c) (l.take k) := by
  have hl : (l.take k).length = k := by simp; omega
  refine ⟨by rw [row_length], ?_⟩
  rcases h.2 with ⟨hv, h0⟩ | ⟨g, cap, cur, hv, hg, hh, hn, hc, hs, ht⟩
  · left
    simp at hv
    obtain ⟨rfl, rfl, rfl⟩ := hv
    exact ⟨by rw [show k = 0 by omega], by omega⟩
  · right
    simp at hv
    obtain ⟨rfl, rfl, rfl⟩ := hv
    refine ⟨g, c, cur, by rw [hl], hg, hh, by omega, hc, hs, ?_⟩
    rw [hl, row_take, ← ht, List.take_take, Nat.min_eq_left (by omega)]

theorem Own.cap {w : World} {base : Nat} {A : Option Addr} {n c : Nat} {l : List Pkt} (h : Own w base (.slice A n c) l) : n ≤ c := by
  rcases h.2 with ⟨hv, h0⟩ | ⟨g, cap, cur, hv, hg, hh, hn, hc, hs, ht⟩
  · simp at hv; omega
  · simp at hv; omega
theorem Own.len {w : World} {base : Nat} {A : Option Addr} {n c : Nat} {l : List Pkt} (h : Own w base (.slice A n c) l) : n = l.length := by
  obtain ⟨A', c', e⟩ := h.slice
  simp at e; omega

set_option maxHeartbeats 2000000 in
theorem pushR_any (A B : Option Addr) (c d : Nat) (a b : List Pkt) (w : World) (ha : a.length ≤ 2000) (hb : b.length ≤ 2000) (hA : Rd w w.heap.size A a) (hB : Rd w w.heap.size B b) :
    Calls Try.prog 16 #[.slice A a.length c, .slice B b.length d] w (Gives (pushL a b) w) := by
  have HA := Lib.hid hA
  have HB := Lib.hid hB
  clear hA hB
  go_enter Try.func16, Try.ntmps16
  go_wp2_with (first
    | (at_builtin; refine wpList_app _ rfl (.tmp 6) (.tmp 7) rfl w.heap.size _ [] rfl (Own.nil _ _) _ _ _ a rfl rfl HA.out (by simp; omega) (Nat.le_refl _) ?_; intro A' n' c' w1 hn' hown' hgrow hat; have hb1 : Below w.heap.size w w1 := (Below.refl _ _).grown hgrow (Nat.le_refl _) (fun j hj => (by cases hj)); have hz1 := hb1.size; clear hn' hgrow hat)
    | (at_builtin; refine wpList_app _ rfl (.tmp 9) (.tmp 10) rfl w.heap.size _ _ rfl hown' _ _ _ b rfl rfl ((HB.out.below hb1).more hz1) (by simp; omega) hz1 ?_; intro A2 n2 c2 w2 hn2 hown2 hgrow2 hat2; have hb2 : Below w.heap.size w w2 := hb1.grown hgrow2 hz1 (fun j hj => (hown'.lt j hj).1); clear hgrow2 hat2 hn2; have hcap := hown2.cap))
  · have h64 : (64 : Int) < n2 := by assumption
    go_ret
    refine ⟨_, rfl, ?_, hb2⟩
    have := hown2.len
    exact hown2.take 64 (by omega)
  · have h64 : (n2 : Int) ≤ 64 := by assumption
    go_ret
    refine ⟨_, rfl, ?_, hb2⟩
    have := hown2.len
    have e : pushL a b = [] ++ a ++ b := by unfold pushL; rw [List.take_of_length_le (by simp at this ⊢; omega)]; rfl
    rw [e]; exact hown2

/-- A list that begins with 64 packets. -/
theorem push_full (a b x y : List Pkt) (h : a ++ b = x ++ y) (hx : x.length = 64) : pushL a b = x := by
  unfold pushL; rw [h, List.take_append, List.take_of_length_le (by omega)]; simp [hx]
theorem push_all (a b : List Pkt) (h : (a ++ b).length ≤ 64) : pushL a b = a ++ b := by unfold pushL; exact List.take_of_length_le h
/-- What has been gathered before part j. -/
def preL (a b : List Pkt) (j : Nat) : List Pkt := if j = 0 then [] else if j = 1 then a else a ++ b
def partL (a b : List Pkt) (j : Nat) : List Pkt := if j = 0 then a else b
theorem pre_part (a b : List Pkt) (j : Nat) (h : j < 2) : preL a b j ++ partL a b j = preL a b (j + 1) := by
  rcases (show j = 0 ∨ j = 1 by omega) with rfl | rfl <;> rfl
theorem pre_prefix (a b : List Pkt) (j : Nat) (h : j < 2) : ∃ y, a ++ b = preL a b j ++ partL a b j ++ y := by
  rcases (show j = 0 ∨ j = 1 by omega) with rfl | rfl
  · exact ⟨b, rfl⟩
  · exact ⟨[], by simp [preL, partL]⟩

def OutRel (a b : List Pkt) (A B : Option Addr) (c d : Nat) (w : World) (v j : Value) (wr : World) : Prop :=
  ∃ n : Nat, n ≤ 2 ∧ j = .int .i64 n ∧ (preL a b n).length ≤ 64 ∧ Own wr (w.heap.size + 1) v (preL a b n) ∧ Blk wr w.heap.size 22 #[.slice A a.length c, .slice B b.length d] ∧ Below w.heap.size w wr
def InRel (pre part : List Pkt) (blk : Array Value) (w : World) (v i : Value) (wr : World) : Prop :=
  ∃ k : Nat, k ≤ part.length ∧ i = .int .i64 k ∧ (pre ++ part.take k).length ≤ 64 ∧ Own wr (w.heap.size + 1) v (pre ++ part.take k) ∧ Blk wr w.heap.size 22 blk ∧ Below w.heap.size w wr
end Go.Proofs.Ytgpbfaelhfpbfaa
