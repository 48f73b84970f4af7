/- The walk of AirParts. -/
import Derived.Test.YtgpbfaelhfpbfaaAliveW
namespace Go.Proofs.Ytgpbfaelhfpbfaa
open Go.RowKit

def GivesS (out : List Pkt) (w : World) (e : Ending) (w' : World) : Prop := ∃ A c, e = .returned (.slice A out.length c) ∧ Own w' w.heap.size (.slice A out.length c) out ∧ Below w.heap.size w w'
theorem Gives.toS {out : List Pkt} {w : World} {e : Ending} {w' : World} (h : Gives out w e w') : GivesS out w e w' := by
  obtain ⟨v, he, ho, hb⟩ := h
  obtain ⟨A, c, rfl⟩ := ho.slice
  exact ⟨A, c, he, ho, hb⟩
theorem for_s (A : Option Addr) (c : Nat) (l : List Pkt) (to : Int) (w : World) (hl : l.length ≤ 2000) (hok : ∀ p ∈ l, InI p.t) (hA : Rd w w.heap.size A l) : Calls Try.prog 10 #[.slice A l.length c, .int .i64 to] w (GivesS (sel l to) w) :=
  (for_any A c l to w hl hok hA).mono fun _ _ h => h.toS
theorem for_n (A : Option Addr) (n c : Nat) (l : List Pkt) (to : Int) (w : World) (hn : l.length = n) (hl : l.length ≤ 2000) (hok : ∀ p ∈ l, InI p.t) (hA : Rd w w.heap.size A l) : Calls Try.prog 10 #[.slice A n c, .int .i64 to] w (GivesS (sel l to) w) := by
  subst hn; exact for_s A c l to w hl hok hA
theorem same_n (A A' : Option Addr) (n n' c c' : Nat) (l m : List Pkt) (w : World) (hn : l.length = n) (hn' : m.length = n') (hl : l.length ≤ 2000) (hA : Rd w w.heap.size A l) (hA' : Rd w w.heap.size A' m) :
    Calls Try.prog 11 #[.slice A n c, .slice A' n' c'] w fun e w' => e = .returned (.bool (eqL l m)) ∧ Below w.heap.size w w' := by
  subst hn hn'; exact same_any A A' c c' l m w (by unfold maxLen; omega) hA hA'
theorem cnt_sel (l : List Pkt) (p : Pkt) : cnt (sel l p.t) p = cnt l p := by
  unfold cnt sel
  rw [List.filter_filter]
  congr 1
  apply List.filter_congr
  intro q _
  cases h : pktEq q p
  · rfl
  · rw [(pktEq_iff q p).1 h]; simp
theorem sel_append (a b : List Pkt) (to : Int) : sel (a ++ b) to = sel a to ++ sel b to := by unfold sel; exact List.filter_append ..
theorem count_sel (A : Option Addr) (c : Nat) (l : List Pkt) (p : Pkt) (w : World) (hl : l.length ≤ 2000) (hA : Rd w w.heap.size A (sel l p.t)) :
    Calls Try.prog 12 #[.slice A (sel l p.t).length c, .agg #[.int .i64 p.f, .int .i64 p.t, .int .i64 p.a, .string p.d]] w fun e w' => e = .returned (.int .i64 (cnt l p)) ∧ Below w.heap.size w w' :=
  (count_any A c (sel l p.t) p w (by have : (sel l p.t).length ≤ l.length := List.length_filter_le _ _; unfold maxLen; omega) hA).mono fun _ _ ⟨he, hb⟩ => ⟨he.trans (by rw [cnt_sel]), hb⟩
theorem few_len {l : List Pkt} (h : fewB l = true) : l.length ≤ 300 := by unfold fewB at h; simp at h; exact h.2
def PartsRel (a : List Pkt) (w : World) (i : Value) (wr : World) : Prop := ∃ k : Nat, k ≤ a.length ∧ i = .int .i64 k ∧ Below w.heap.size w wr

theorem Own.lit0 (w : World) (base : Nat) (hb : base ≤ w.heap.size) : Own (w.alloc (.cells #[] 28)) base (.slice (some ⟨w.heap.size, 0, none⟩) 0 0) [] :=
  World.ownsRow_lit (base := base) (e := 28) (size := 4) w #[] 0 hb (by unfold maxLen; omega) rfl
theorem own_apart {w : World} {base : Nat} {v v' : Value} {l : List Pkt} {g : Nat} (h : Own w base v l) (hne : v.ownBlock ≠ some g) (hat : v'.ownBlock = some g ∨ v'.ownBlock = some w.heap.size) : v.ownBlock = none ∨ v.ownBlock ≠ v'.ownBlock := by
  refine .inr (fun e => ?_)
  rcases hat with h1 | h1
  · exact hne (e.trans h1)
  · have := (h.lt _ (e.trans h1)).2; omega
/-- Behind a call, or a box: the words that are carried. -/
theorem carry {w W w1 : World} (hB : Below w.heap.size w W) (hb : Below W.heap.size W w1) : Below w.heap.size w w1 := hB.trans (hb.mono hB.size)
theorem Rd.at_world {w W : World} {A : Option Addr} {l : List Pkt} (h : Rd w w.heap.size A l) (hB : Below w.heap.size w W) : Rd W W.heap.size A l := (h.below hB).more hB.size

theorem keep_box {w wr W w1 : World} {p : Pkt} (hb : Below W.heap.size W w1) (hz : w.heap.size ≤ wr.heap.size)
    (h : (W.cell? ⟨wr.heap.size, 0, none⟩ = some (.int .i64 p.f) ∧ W.cell? ⟨wr.heap.size, 1, none⟩ = some (.int .i64 p.t) ∧ W.cell? ⟨wr.heap.size, 2, none⟩ = some (.int .i64 p.a) ∧ W.cell? ⟨wr.heap.size, 3, none⟩ = some (.string p.d)) ∧ wr.heap.size < W.heap.size ∧ Below w.heap.size w W) :
    (w1.cell? ⟨wr.heap.size, 0, none⟩ = some (.int .i64 p.f) ∧ w1.cell? ⟨wr.heap.size, 1, none⟩ = some (.int .i64 p.t) ∧ w1.cell? ⟨wr.heap.size, 2, none⟩ = some (.int .i64 p.a) ∧ w1.cell? ⟨wr.heap.size, 3, none⟩ = some (.string p.d)) ∧ wr.heap.size < w1.heap.size ∧ Below w.heap.size w w1 :=
  ⟨HasPkt.below h.1 hb h.2.1, Nat.lt_of_lt_of_le h.2.1 hb.size, h.2.2.trans (hb.mono (by omega))⟩

theorem box_bel {w wr W : World} {p : Pkt} (h : (W.cell? ⟨wr.heap.size, 0, none⟩ = some (.int .i64 p.f) ∧ W.cell? ⟨wr.heap.size, 1, none⟩ = some (.int .i64 p.t) ∧ W.cell? ⟨wr.heap.size, 2, none⟩ = some (.int .i64 p.a) ∧ W.cell? ⟨wr.heap.size, 3, none⟩ = some (.string p.d)) ∧ wr.heap.size < W.heap.size ∧ Below w.heap.size w W) : Below w.heap.size w W := h.2.2

set_option maxHeartbeats 16000000 in
theorem parts_walk (A B : Option Addr) (c d : Nat) (a b : List Pkt) (to : Int) (w : World) (ha : a.length ≤ maxLen) (hb : b.length ≤ maxLen) (oka : ∀ p ∈ a, p.Ok) (okb : ∀ p ∈ b, p.Ok) (hA : Rd w w.heap.size A a) (hB : Rd w w.heap.size B b) :
    Calls Try.prog 3 #[.slice A a.length c, .slice B b.length d, .int .i64 to] w fun e w' => e = .returned (.bool true) ∧ Below w.heap.size w w' := by
  have HA := Lib.hid hA
  have HB := Lib.hid hB
  have OA := Lib.hid oka
  have OB := Lib.hid okb
  have HLA := Lib.hid ha
  have HLB := Lib.hid hb
  clear hA hB oka okb ha hb
  go_enter Try.func3, Try.ntmps3
  go_wp2_with fail
  refine (few_any A c a _ HLA.out HA.out).mono ?_
  rintro e w1 ⟨rfl, B1⟩
  cases hfa : fewB a
  · go_wp2_with fail
    refine (alive_any _).mono ?_
    rintro e w2 ⟨rfl, hb2⟩
    go_wp2_with fail
    go_ret
    exact ⟨rfl, carry B1 hb2⟩
  have ha := few_len hfa
  clear hfa
  go_wp2_with fail
  refine (few_any B d b _ HLB.out (HB.out.at_world B1)).mono ?_
  rintro e w2 ⟨rfl, hb2⟩
  have B2 := carry B1 hb2
  clear B1 hb2
  cases hfb : fewB b
  · go_wp2_with fail
    refine (alive_any _).mono ?_
    rintro e w2 ⟨rfl, hb2⟩
    go_wp2_with fail
    go_ret
    exact ⟨rfl, carry B2 hb2⟩
  have hb := few_len hfb
  clear hfb
  have z2 := B2.size
  have hsel := Lib.hid (show ∀ l : List Pkt, (sel l to).length ≤ l.length from fun l => List.length_filter_le _ _)
  go_wp2_with (first
    | (at_builtin; refine wpList_app _ rfl (.tmp 20) (.tmp 21) rfl w.heap.size (.slice (some ⟨w2.heap.size, 0, none⟩) 0 0) [] rfl (Own.lit0 _ _ z2) _ _ _ a rfl rfl (HA.out.at_world (B2.alloc z2 _)) (by simp; omega) (by simp; omega) ?_; intro A3 n3 c3 w3 hn3 ho3 hg3 hat3; have B3 : Below w.heap.size w w3 := (B2.alloc z2 _).grown hg3 (by simp; omega) (fun j hj => (by cases hj; exact z2)); have z3 := B3.size; clear hn3 hg3 hat3 B2 z2)
    | (at_builtin; refine wpList_app _ rfl (.tmp 22) (.tmp 23) rfl w.heap.size (.slice A3 n3 c3) _ rfl ho3 _ _ _ b rfl rfl (HB.out.at_world B3) (by simp; omega) z3 ?_; intro A4 n4 c4 w4 hn4 ho4 hg4 hat4; have B4 : Below w.heap.size w w4 := B3.grown hg4 z3 (fun j hj => (ho3.lt j hj).1); have z4 := B4.size; clear hn4 hg4 hat4 ho3 B3 z3))
  have Hn4 : Hid ((a ++ b).length = n4) := ho4.len.symm
  have ho4' : Own w4 w.heap.size (.slice A4 n4 c4) (a ++ b) := ho4
  clear ho4
  refine (for_s A c a to _ (by omega) (fun p hp => (OA.out p hp).2.1) (HA.out.at_world (B4.alloc z4 _))).mono ?_
  rintro e w5 ⟨A5, c5, rfl, ho5, hb5⟩
  have oe5 : Own w5 w.heap.size (.slice (some ⟨w4.heap.size, 0, none⟩) 0 0) [] := (Own.lit0 _ _ z4).below hb5 (Nat.le_refl _)
  have o45 : Own w5 w.heap.size (.slice A4 n4 c4) (a ++ b) := (ho4'.alloc _).below hb5 (Nat.le_refl _)
  have B5 : Below w.heap.size w w5 := carry (B4.alloc z4 _) hb5
  have z5 := B5.size
  have n45 : (Value.slice A4 n4 c4).ownBlock ≠ some w4.heap.size := fun e => by have := (ho4'.lt _ e).2; omega
  have N45 := Lib.hid n45
  clear hb5 B4 ho4' n45
  go_wp2_with (first
    | (at_builtin; refine wpList_app _ rfl (.tmp 25) (.tmp 28) rfl w.heap.size (.slice (some ⟨w4.heap.size, 0, none⟩) 0 0) [] rfl oe5 _ _ _ (sel a to) rfl rfl ho5.rd (by have := hsel.out a; simp; omega) z5 ?_; intro A6 n6 c6 w6 hn6 ho6 hg6 hat6; clear hn6))
  have o46 : Own w6 w.heap.size (.slice A4 n4 c4) (a ++ b) := o45.kept hg6 (.inr N45.out)
  have B6 : Below w.heap.size w w6 := B5.grown hg6 z5 (fun j hj => (oe5.lt j hj).1)
  have z6 := B6.size
  have N46 := Lib.hid (own_apart (v' := .slice A6 n6 c6) o45 N45.out hat6)
  clear hg6 hat6 B5 z5 ho5 o45 oe5
  refine (for_s B d b to _ (by omega) (fun p hp => (OB.out p hp).2.1) (HB.out.at_world B6)).mono ?_
  rintro e w7 ⟨A7, c7, rfl, ho7, hb7⟩
  have o67 := ho6.below hb7 (Nat.le_refl _)
  have o47 := o46.below hb7 (Nat.le_refl _)
  have B7 : Below w.heap.size w w7 := carry B6 hb7
  have z7 := B7.size
  clear hb7 B6 z6 ho6 o46
  go_wp2_with (first
    | (at_builtin; refine wpList_app _ rfl (.tmp 29) (.tmp 32) rfl w.heap.size (.slice A6 n6 c6) _ rfl o67 _ _ _ (sel b to) rfl rfl ho7.rd (by have := hsel.out a; have := hsel.out b; simp; omega) z7 ?_; intro A8 n8 c8 w8 hn8 ho8 hg8 hat8; clear hn8 hat8))
  have o48 : Own w8 w.heap.size (.slice A4 n4 c4) (a ++ b) := o47.kept hg8 N46.out
  have B8 : Below w.heap.size w w8 := B7.grown hg8 z7 (fun j hj => (o67.lt j hj).1)
  have z8 := B8.size
  clear hg8 B7 z7 ho7 o67 o47
  have ho8' : Own w8 w.heap.size (.slice A8 n8 c8) (sel (a ++ b) to) := by rw [sel_append]; exact ho8
  have Hn8 : Hid ((sel (a ++ b) to).length = n8) := ho8'.len.symm
  clear ho8 hsel N45 N46
  refine (for_n A4 n4 c4 (a ++ b) to _ Hn4.out (by simp; omega) (fun p hp => (List.mem_append.1 hp).elim (fun h => (OA.out p h).2.1) (fun h => (OB.out p h).2.1)) o48.rd).mono ?_
  rintro e w9 ⟨A9, c9, rfl, ho9, hb9⟩
  obtain ⟨n9, Hn9⟩ : ∃ n9, Hid ((sel (a ++ b) to).length = n9) := ⟨_, rfl⟩
  rw [Hn9.out]
  rw [Hn9.out] at ho9
  have o89 := ho8'.below hb9 (Nat.le_refl _)
  have B9 : Below w.heap.size w w9 := carry B8 hb9
  clear hb9 B8 z8 ho8' o48
  go_wp2_with fail
  refine (same_n A9 A8 n9 n8 c9 c8 (sel (a ++ b) to) (sel (a ++ b) to) _ Hn9.out Hn8.out (by have : (sel (a ++ b) to).length ≤ (a ++ b).length := List.length_filter_le _ _; simp at this; omega) ho9.rd o89.rd).mono ?_
  rintro e w10 ⟨rfl, hb10⟩
  rw [eqL_self]
  have B10 : Below w.heap.size w w10 := carry B9 hb10
  clear hb10 B9 ho9 o89
  clear Hn4 Hn8 Hn9
  go_wp2_with fail
  go_loopw [42] (fun i wr => PartsRel a w i wr) (fun i _ => a.length - (intOf i).toNat)
  case atStart => exact ⟨0, Nat.zero_le _, rfl, B10⟩
  case round =>
    clear B10
    obtain ⟨k, hk, rfl, hbel⟩ := hrel
    have hz := hbel.size
    by_cases hlt : k < a.length
    · obtain ⟨xb, xo, rfl, hxb, c0, c1, c2, c3⟩ := (HA.out.below hbel).at_ hlt
      have R0 : Hid (∀ W, Below w.heap.size w W → Rd W W.heap.size (some ⟨xb, xo, none⟩) a) := fun W hW => HA.out.at_world hW
      have BX : Hid (Below w.heap.size w (wr.alloc (.cells #[.int .i64 a[k].f, .int .i64 a[k].t, .int .i64 a[k].a, .string a[k].d] 28)).drew) := (hbel.alloc hz _).drew
      go_wp2_with fail
      clear c0 c1 c2 c3
      go_region_held3 (fun w' => (w'.cell? ⟨wr.heap.size, 0, none⟩ = some (.int .i64 a[k].f) ∧ w'.cell? ⟨wr.heap.size, 1, none⟩ = some (.int .i64 a[k].t) ∧ w'.cell? ⟨wr.heap.size, 2, none⟩ = some (.int .i64 a[k].a) ∧ w'.cell? ⟨wr.heap.size, 3, none⟩ = some (.string a[k].d)) ∧ wr.heap.size < w'.heap.size ∧ Below w.heap.size w w')
        (first | exact ⟨⟨by go_keep, by go_keep, by go_keep, by go_keep⟩, by simp, BX.out⟩ | exact keep_box hb hz (by assumption))
        (first
          | (go_at_call 10; (with_reducible refine (for_s _ _ a a[k].t _ ?_ ?_ ?_).mono ?_); (omega); (exact fun p hp => (OA.out p hp).2.1); (exact R0.out _ (box_bel (p := a[k]) (wr := wr) (by assumption))); rintro e w3 ⟨A', c', rfl, hoF, hb⟩; have hRF := hoF.rd; clear hoF)
          | (go_at_call 12; (with_reducible refine (count_sel _ _ a a[k] _ ?_ ?_).mono ?_); (omega); (first | exact hRF | exact (hRF.below hb).more hb.size); rintro e w4 ⟨rfl, hb⟩)
          | (go_at_call 12; (with_reducible refine (count_any _ _ a a[k] _ ?_ ?_).mono ?_); (unfold maxLen; omega); (exact R0.out _ (box_bel (p := a[k]) (wr := wr) (by assumption))); rintro e w5 ⟨rfl, hb⟩))
      go_wp2
      go_roundw
      case rel => exact ⟨k + 1, by omega, by go_num, box_bel (p := a[k]) (wr := wr) (by assumption)⟩
      case measure => simp [intOf]; omega
    · go_wp2_with fail
      refine (alive_any _).mono ?_
      rintro e w2 ⟨rfl, hb2⟩
      go_wp2_with fail
      go_ret
      exact ⟨rfl, carry hbel hb2⟩
end Go.Proofs.Ytgpbfaelhfpbfaa
