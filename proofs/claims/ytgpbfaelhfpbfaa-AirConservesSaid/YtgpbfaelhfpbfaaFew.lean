/- few, count, Same, fate: contracts. -/
import Derived.Test.YtgpbfaelhfpbfaaChecked
import Derived.Test.YtgpbfaelhfpbfaaPlain
import Derived.WalkLawsBesides
import Derived.WalkSpells
import Derived.Outline
import Derived.Lib.Hide
import Derived.OwnWalk
import Derived.Deep.QuietTactic
import Derived.BigQuiet
import Derived.WideShapes
namespace Go.Proofs.Ytgpbfaelhfpbfaa
open Go.RowKit

def fewB (l : List Pkt) : Bool := l.all (fun p => decide (p.d.size ≤ 300)) && decide (l.length ≤ 300)
def FewRel (l : List Pkt) (w : World) (i : Value) (wr : World) : Prop := ∃ k : Nat, k ≤ l.length ∧ i = .int .i64 k ∧ (l.take k).all (fun p => decide (p.d.size ≤ 300)) = true ∧ Below w.heap.size w wr

theorem ret_bool {a b : Bool} (h : a = b) : Ending.returned (.bool a) = .returned (.bool b) := by rw [h]
theorem ret_int {k : IntKind} {a b : Int} (h : a = b) : Ending.returned (.int k a) = .returned (.int k b) := by rw [h]
theorem take_snoc {α : Type} (l : List α) (k : Nat) (h : k < l.length) : l.take (k + 1) = l.take k ++ [l[k]] := List.take_succ_eq_append_getElem h
theorem take_all (l : List Pkt) (k : Nat) (h : k < l.length) (ha : (l.take k).all (fun p => decide (p.d.size ≤ 300)) = true) (hs : l[k].d.size ≤ 300) : (l.take (k + 1)).all (fun p => decide (p.d.size ≤ 300)) = true := by
  rw [take_snoc l k h, List.all_append, ha]; simpa using hs
theorem few_no (l : List Pkt) (k : Nat) (h : k < l.length) (hs : ¬ l[k].d.size ≤ 300) : fewB l = false := by
  unfold fewB
  have : (l.all fun p => decide (p.d.size ≤ 300)) = false := by
    rw [List.all_eq_false]
    exact ⟨l[k], List.getElem_mem h, by simpa using hs⟩
  rw [this]; rfl
theorem few_end (l : List Pkt) (k : Nat) (h : l.length ≤ k) (ha : (l.take k).all (fun p => decide (p.d.size ≤ 300)) = true) : decide ((l.length : Int) ≤ 300) = fewB l := by
  rw [List.take_of_length_le h] at ha
  unfold fewB
  rw [ha, Bool.true_and]
  simp; omega

set_option maxHeartbeats 1000000 in
theorem few_any (A : Option Addr) (c : Nat) (l : List Pkt) (w : World) (hl : l.length ≤ maxLen) (hA : Rd w w.heap.size A l) :
    Calls Try.prog 8 #[.slice A l.length c] w fun e w' => e = .returned (.bool (fewB l)) ∧ Below w.heap.size w w' := by
  unfold maxLen at hl
  have HA := Lib.hid hA
  clear hA
  go_enter Try.func8, Try.ntmps8
  go_wp2
  go_loopw [7] (fun i wr => FewRel l w i wr) (fun i _ => l.length - (intOf i).toNat)
  case atStart => exact ⟨0, Nat.zero_le _, rfl, by simp, Below.refl _ _⟩
  case round =>
    obtain ⟨k, hk, rfl, hall, hb⟩ := hrel
    have Hall := Lib.hid hall
    clear hall
    by_cases hlt : k < l.length
    · obtain ⟨b, off, rfl, hbb, c0, c1, c2, c3⟩ := (HA.out.below hb).at_ hlt
      have hz := hb.size
      by_cases hs : l[k].d.size ≤ 300
      · go_wp2
        go_roundw
        case rel => exact ⟨k + 1, by omega, by go_num, take_all l k hlt Hall.out hs, hb.alloc hz _⟩
        case measure => simp [intOf]; omega
      · go_wp2
        go_ret
        exact ⟨ret_bool (few_no l k hlt hs).symm, hb.alloc hz _⟩
    · go_wp2
      go_ret
      exact ⟨ret_bool (few_end l k (by omega) Hall.out), hb⟩

def pktEq (p q : Pkt) : Bool := decide (p.f = q.f) && decide (p.t = q.t) && decide (p.a = q.a) && decide (p.d.toList = q.d.toList)
theorem pktEq_iff (p q : Pkt) : pktEq p q = true ↔ p = q := by
  unfold pktEq
  constructor
  · intro h
    simp only [Bool.and_eq_true, decide_eq_true_eq] at h
    obtain ⟨⟨⟨h0, h1⟩, h2⟩, h3⟩ := h
    rw [ByteArray.toList_eq, ByteArray.toList_eq] at h3
    obtain ⟨f, t, a, d⟩ := p
    obtain ⟨f', t', a', d'⟩ := q
    have h4 : d = d' := WideShapes.bytes_inj h3
    simp at h0 h1 h2
    rw [h0, h1, h2, h4]
  · rintro rfl
    simp
theorem run_eql_pkt (w : World) (p q : Pkt) : (binOp .eql 28 (.agg #[.int .i64 p.f, .int .i64 p.t, .int .i64 p.a, .string p.d]) (.agg #[.int .i64 q.f, .int .i64 q.t, .int .i64 q.a, .string q.d])).run Try.prog w = .ok (.bool (pktEq p q)) w := by
  unfold pktEq
  by_cases h0 : p.f = q.f <;> by_cases h1 : p.t = q.t <;> by_cases h2 : p.a = q.a <;> by_cases h3 : p.d.toList = q.d.toList <;> go_simp <;> simp [h0, h1, h2, h3]
theorem run_neq_pkt (w : World) (p q : Pkt) : (binOp .neq 28 (.agg #[.int .i64 p.f, .int .i64 p.t, .int .i64 p.a, .string p.d]) (.agg #[.int .i64 q.f, .int .i64 q.t, .int .i64 q.a, .string q.d])).run Try.prog w = .ok (.bool (!pktEq p q)) w := by
  unfold pktEq
  by_cases h0 : p.f = q.f <;> by_cases h1 : p.t = q.t <;> by_cases h2 : p.a = q.a <;> by_cases h3 : p.d.toList = q.d.toList <;> go_simp <;> simp [h0, h1, h2, h3]

/-- How many packets of a list are equal to a packet. -/
def cnt (l : List Pkt) (p : Pkt) : Nat := (l.filter fun q => pktEq q p).length
theorem cnt_le (l : List Pkt) (p : Pkt) : cnt l p ≤ l.length := List.length_filter_le _ _
theorem cnt_snoc (l : List Pkt) (q p : Pkt) : cnt (l ++ [q]) p = cnt l p + if pktEq q p = true then 1 else 0 := by
  unfold cnt
  rw [List.filter_append, List.length_append]
  cases h : pktEq q p <;> simp [h]
theorem cnt_yes (l : List Pkt) (k : Nat) (p : Pkt) (h : k < l.length) (he : pktEq l[k] p = true) : cnt (l.take (k + 1)) p = cnt (l.take k) p + 1 := by
  rw [take_snoc l k h, cnt_snoc, if_pos he]
theorem cnt_no (l : List Pkt) (k : Nat) (p : Pkt) (h : k < l.length) (he : pktEq l[k] p = false) : cnt (l.take (k + 1)) p = cnt (l.take k) p := by
  rw [take_snoc l k h, cnt_snoc, if_neg (by simp [he])]; rfl
theorem cnt_take_le (l : List Pkt) (k : Nat) (p : Pkt) : cnt (l.take k) p ≤ k := Nat.le_trans (cnt_le _ _) (List.length_take_le _ _)

def HasPkt (w : World) (g : Nat) (p : Pkt) : Prop := w.cell? ⟨g, 0, none⟩ = some (.int .i64 p.f) ∧ w.cell? ⟨g, 1, none⟩ = some (.int .i64 p.t) ∧ w.cell? ⟨g, 2, none⟩ = some (.int .i64 p.a) ∧ w.cell? ⟨g, 3, none⟩ = some (.string p.d)
theorem HasPkt.keep {w w' : World} {g : Nat} {p : Pkt} (h : HasPkt w g p) (hk : ∀ o, w'.cell? ⟨g, o, none⟩ = w.cell? ⟨g, o, none⟩) : HasPkt w' g p :=
  ⟨(hk 0).trans h.1, (hk 1).trans h.2.1, (hk 2).trans h.2.2.1, (hk 3).trans h.2.2.2⟩
theorem HasPkt.alloc {w : World} {g : Nat} {p : Pkt} (h : HasPkt w g p) (hg : g < w.heap.size) (o : Obj) : HasPkt (w.alloc o) g p := h.keep fun _ => World.cell?_alloc_lt w o _ hg
theorem HasPkt.below {w w' : World} {g B : Nat} {p : Pkt} (h : HasPkt w g p) (hb : Below B w w') (hg : g < B) : HasPkt w' g p := h.keep fun _ => hb.cell hg
def CountRel (l : List Pkt) (p : Pkt) (w : World) (n i : Value) (wr : World) : Prop :=
  ∃ k : Nat, k ≤ l.length ∧ i = .int .i64 k ∧ n = .int .i64 (cnt (l.take k) p) ∧ Below w.heap.size w wr ∧ HasPkt wr w.heap.size p ∧ w.heap.size < wr.heap.size

set_option maxHeartbeats 1000000 in
theorem count_any (A : Option Addr) (c : Nat) (l : List Pkt) (p : Pkt) (w : World) (hl : l.length ≤ maxLen) (hA : Rd w w.heap.size A l) :
    Calls Try.prog 12 #[.slice A l.length c, .agg #[.int .i64 p.f, .int .i64 p.t, .int .i64 p.a, .string p.d]] w fun e w' => e = .returned (.int .i64 (cnt l p)) ∧ Below w.heap.size w w' := by
  unfold maxLen at hl
  have HA := Lib.hid hA
  clear hA
  go_enter Try.func12, Try.ntmps12
  go_wp2
  go_loopw [5, 10] (fun n i wr => CountRel l p w n i wr) (fun _ i _ => l.length - (intOf i).toNat)
  case atStart => exact ⟨0, Nat.zero_le _, rfl, rfl, (Below.refl _ _).alloc (Nat.le_refl _) _, by simp [HasPkt], by simp⟩
  case round =>
    obtain ⟨k, hk, rfl, rfl, hb, hp, hz⟩ := hrel
    have hcl := cnt_take_le l k p
    by_cases hlt : k < l.length
    · obtain ⟨b, off, rfl, hbb, c0, c1, c2, c3⟩ := (HA.out.below hb).at_ hlt
      have hp' := hp
      obtain ⟨d0, d1, d2, d3⟩ := hp'
      have hq := fun W => run_eql_pkt W l[k] p
      cases he : pktEq l[k] p
      · have hn := Lib.hid (cnt_no l k p hlt he)
        go_wp2
        go_roundw
        case rel => exact ⟨k + 1, by omega, by go_num, by rw [hn.out], hb.alloc (by omega) _, hp.alloc hz _, by simp; omega⟩
        case measure => simp [intOf]; omega
      · have hn := Lib.hid (cnt_yes l k p hlt he)
        go_wp2
        go_roundw
        case rel => exact ⟨k + 1, by omega, by go_num, by rw [hn.out]; go_num, hb.alloc (by omega) _, hp.alloc hz _, by simp; omega⟩
        case measure => simp [intOf]; omega
    · go_wp2
      go_ret
      exact ⟨ret_int (by rw [List.take_of_length_le (by omega)]), hb⟩

def eqL : List Pkt → List Pkt → Bool
  | [], [] => true
  | p :: l, q :: m => pktEq p q && eqL l m
  | _, _ => false
theorem eqL_iff : ∀ l m : List Pkt, eqL l m = true ↔ l = m
  | [], [] => by simp [eqL]
  | [], _ :: _ => by simp [eqL]
  | _ :: _, [] => by simp [eqL]
  | p :: l, q :: m => by simp [eqL, pktEq_iff, eqL_iff l m]
theorem eqL_self (l : List Pkt) : eqL l l = true := (eqL_iff l l).2 rfl
theorem eqL_len (l m : List Pkt) (h : l.length ≠ m.length) : eqL l m = false := by
  rw [Bool.eq_false_iff]; intro e; exact h (by rw [(eqL_iff l m).1 e])
theorem eqL_step (l m : List Pkt) (k : Nat) (h : k < l.length) (h' : k < m.length) (he : l.take k = m.take k) (hq : pktEq l[k] m[k] = true) : l.take (k + 1) = m.take (k + 1) := by
  rw [take_snoc l k h, take_snoc m k h', he, (pktEq_iff _ _).1 hq]
theorem eqL_stop (l m : List Pkt) (k : Nat) (h : k < l.length) (h' : k < m.length) (hq : pktEq l[k] m[k] = false) : eqL l m = false := by
  rw [Bool.eq_false_iff]; intro e
  have : l = m := (eqL_iff l m).1 e
  subst this
  rw [(pktEq_iff _ _).2 rfl] at hq
  cases hq
def SameRel (l m : List Pkt) (w : World) (i : Value) (wr : World) : Prop := ∃ k : Nat, k ≤ l.length ∧ i = .int .i64 k ∧ l.take k = m.take k ∧ ∃ n, wr = w.drewN n

set_option maxHeartbeats 1000000 in
theorem same_any (A A' : Option Addr) (c c' : Nat) (l m : List Pkt) (w : World) (hl : l.length ≤ maxLen) (hA : Rd w w.heap.size A l) (hA' : Rd w w.heap.size A' m) :
    Calls Try.prog 11 #[.slice A l.length c, .slice A' m.length c'] w fun e w' => e = .returned (.bool (eqL l m)) ∧ Below w.heap.size w w' := by
  unfold maxLen at hl
  have HA := Lib.hid hA
  have HA' := Lib.hid hA'
  clear hA hA'
  by_cases hlen : l.length = m.length
  · have hneq : ((l.length : Int) != (m.length : Int)) = false := by simp [hlen]
    have HL := Lib.hid hlen
    clear hlen
    go_enter Try.func11, Try.ntmps11
    go_wp2
    go_loopw [5] (fun i wr => SameRel l m w i wr) (fun i _ => l.length - (intOf i).toNat)
    case atStart => exact ⟨0, Nat.zero_le _, rfl, rfl, 0, rfl⟩
    case round =>
      obtain ⟨k, hk, rfl, he, n, rfl⟩ := hrel
      have HE := Lib.hid he
      clear he
      by_cases hlt : k < l.length
      · have hlt' : k < m.length := by rw [← HL.out]; exact hlt
        obtain ⟨b, off, rfl, hbb, c0, c1, c2, c3⟩ := HA.out.at_ hlt
        obtain ⟨b', off', rfl, hbb', d0, d1, d2, d3⟩ := HA'.out.at_ hlt'
        have hq := fun W => run_neq_pkt W l[k] m[k]
        have i0 : (0 : Int) ≤ (k : Int) := by omega
        have i1 : (k : Int) < (l.length : Int) := by omega
        have i2 : (k : Int) < (m.length : Int) := by omega
        cases hx : pktEq l[k] m[k]
        · have HX := Lib.hid (eqL_stop l m k hlt hlt' hx)
          go_wp2
          go_quiet (fail)
          go_wp2
          go_ret
          exact ⟨ret_bool HX.out.symm, by first | exact ⟨rfl, rfl, rfl, Nat.le_refl _, fun _ _ => rfl⟩⟩
        · have HX := Lib.hid (eqL_step l m k hlt hlt' HE.out hx)
          go_wp2
          go_quiet (fail)
          go_wp2
          go_roundw
          case rel => exact ⟨k + 1, by omega, by go_num, HX.out, _, rfl⟩
          case measure => simp [intOf]; omega
      · go_wp2
        go_ret
        refine ⟨ret_bool ?_, ⟨rfl, rfl, rfl, Nat.le_refl _, fun _ _ => rfl⟩⟩
        have e := HE.out
        rw [List.take_of_length_le (by omega), List.take_of_length_le (by rw [← HL.out]; omega)] at e
        exact ((eqL_iff l m).2 e).symm
  · have hneq : ((l.length : Int) != (m.length : Int)) = true := by simp; omega
    go_enter Try.func11, Try.ntmps11
    go_wp2
    go_ret
    exact ⟨ret_bool (eqL_len l m hlen).symm, Below.refl _ _⟩
end Go.Proofs.Ytgpbfaelhfpbfaa
