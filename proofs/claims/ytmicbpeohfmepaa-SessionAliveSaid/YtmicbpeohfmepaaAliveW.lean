/- The walk of SessionAlive. -/
import Derived.Test.YtmicbpeohfmepaaTakesW
import Derived.Deep.RegionHeld3
namespace Go.Proofs.Ytmicbpeohfmepaa
open Go.RowKit
theorem err_cases (p i fr sq tm now : Int) : errI p i fr sq tm now = 0 ∨ errI p i fr sq tm now = 1 ∨ errI p i fr sq tm now = 7 ∨ errI p i fr sq tm now = 15 := by
  unfold errI; split
  · omega
  · split
    · omega
    · split <;> omega
theorem rec_self (n : Int) : recB n n 6 = true := by unfold recB; simp
/-- Both sessions lie in their boxes. -/
abbrev TwoBox (w w2 : World) (p o i h ti th : Int) (W : World) : Prop :=
  (W.cell? ⟨w.heap.size, 0, none⟩ = some (.int .i64 p) ∧ W.cell? ⟨w.heap.size, 1, none⟩ = some (.int .i64 o) ∧ W.cell? ⟨w.heap.size, 2, none⟩ = some (.int .i64 i) ∧ W.cell? ⟨w.heap.size, 3, none⟩ = some (.int .i64 h)) ∧
  (W.cell? ⟨w2.heap.size, 0, none⟩ = some (.int .i64 p) ∧ W.cell? ⟨w2.heap.size, 1, none⟩ = some (.int .i64 o) ∧ W.cell? ⟨w2.heap.size, 2, none⟩ = some (.int .i64 ti) ∧ W.cell? ⟨w2.heap.size, 3, none⟩ = some (.int .i64 th)) ∧
  w.heap.size < W.heap.size ∧ w2.heap.size < W.heap.size ∧ Below w.heap.size w W
theorem TwoBox.start {w w2 : World} {p o i h ti th : Int} (y : w.heap.size < w2.heap.size) (y' : w.heap.size ≤ w2.heap.size) (S : Blk w2 w.heap.size 23 #[.int .i64 p, .int .i64 o, .int .i64 i, .int .i64 h]) (B : Below w.heap.size w w2) :
    TwoBox w w2 p o i h ti th (w2.alloc (.cells #[.int .i64 p, .int .i64 o, .int .i64 ti, .int .i64 th] 23)).drew :=
  ⟨(S.alloc _).drew.four, (Blk.new w2 23 _).drew.four, by show _ < (w2.alloc _).heap.size; simp; omega, by show _ < (w2.alloc _).heap.size; simp, (B.alloc y' _).drew⟩
theorem TwoBox.next {w w2 W W' : World} {p o i h ti th : Int} (H : TwoBox w w2 p o i h ti th W) (hb : Below W.heap.size W W') : TwoBox w w2 p o i h ti th W' := by
  obtain ⟨⟨a0, a1, a2, a3⟩, ⟨b0, b1, b2, b3⟩, y1, y2, B⟩ := H
  obtain ⟨hc, _⟩ := bcell hb
  have := hb.size
  exact ⟨⟨(hc _ _ y1).trans a0, (hc _ _ y1).trans a1, (hc _ _ y1).trans a2, (hc _ _ y1).trans a3⟩, ⟨(hc _ _ y2).trans b0, (hc _ _ y2).trans b1, (hc _ _ y2).trans b2, (hc _ _ y2).trans b3⟩, by omega, by omega, carry B hb⟩
theorem two_bel {w w2 W : World} {p o i h ti th : Int} (H : TwoBox w w2 p o i h ti th W) : Below w.heap.size w W := H.2.2.2.2
set_option maxHeartbeats 8000000 in
theorem aliveLaw_walk (p o i h : Int) (kd fr to sq tm as_ ae : Int) (P : Option Addr) (pn pc : Nat) (L : Option Addr) (ln lc : Nat) (r0 r1 r2 r3 : Int) (rb : Bool) (now : Int) (w : World) (hh : InI h) (htm : InI tm) (hnow : InI now) :
    Calls Try.prog 5 #[.agg #[.int .i64 p, .int .i64 o, .int .i64 i, .int .i64 h], .agg (msgA kd fr to sq tm as_ ae P pn pc L ln lc r0 r1 r2 r3 rb), .int .i64 now] w fun e w' => e = .returned (.bool true) ∧ Below w.heap.size w w' := by
  unfold msgA
  have HH := Lib.hid hh
  have HT := Lib.hid htm
  have HN := Lib.hid hnow
  clear hh htm hnow
  go_enter Try.func5, Try.ntmps5
  go_wp2_with fail
  obtain ⟨b, hb⟩ : ∃ b, b = (decide (200 < pn) || decide (200 < ln)) := ⟨_, rfl⟩
  refine (large_any kd fr to sq tm as_ ae P pn pc L ln lc r0 r1 r2 r3 rb _ b hb).mono ?_
  rintro e w1 ⟨rfl, hb1⟩
  clear hb
  have z1 := hb1.size
  simp at z1
  have S1 := ((Blk.new w 23 _).alloc _).call hb1
  have M1 : Blk w1 (w.heap.size + 1) 31 (msgA kd fr to sq tm as_ ae P pn pc L ln lc r0 r1 r2 r3 rb) := (Blk.new_at _ 31 _ (w.heap.size + 1) (by simp)).call hb1
  have B1 := Lib.hid (carry (below2 _ _ _) hb1)
  clear hb1
  cases b
  case true =>
    go_wp2_with fail
    refine (alive_any _).mono ?_
    rintro e w2 ⟨rfl, hb2⟩
    go_wp2_with fail
    go_ret
    exact ⟨rfl, carry B1.out hb2⟩
  have y0 : w.heap.size < w1.heap.size := by omega
  have y1 : w.heap.size + 1 < w1.heap.size := by omega
  obtain ⟨c0, c1, c2, c3⟩ := S1.four
  obtain ⟨⟨m0, m1, m2, m3, m4⟩, m5, m6, m7, m8, m9, m10, m11, m12, m13⟩ := M1.msgA
  go_wp2_with fail
  clear c0 c1 c2 c3 m0 m1 m2 m3 m4 m5 m6 m7 m8 m9 m10 m11 m12 m13
  refine (take_any p o i h kd fr to sq tm as_ ae P pn pc L ln lc r0 r1 r2 r3 rb now _ HT.out HN.out).mono ?_
  rintro e w2 ⟨rfl, hb2⟩
  obtain ⟨ti, Hti⟩ : ∃ x, Hid (tIn p i fr sq tm now = x) := ⟨_, rfl⟩
  obtain ⟨th, Hth⟩ : ∃ x, Hid (tHeard p i h fr sq tm now = x) := ⟨_, rfl⟩
  obtain ⟨te, Hte⟩ : ∃ x, Hid (errI p i fr sq tm now = x) := ⟨_, rfl⟩
  rw [Hti.out, Hth.out, Hte.out]
  have z2 := hb2.size
  have S2 := S1.call hb2
  have B2 := Lib.hid (carry B1.out hb2)
  clear hb2 S1 M1 B1
  have y2 : w.heap.size < w2.heap.size := by omega
  have y3 : w.heap.size ≤ w2.heap.size := by omega
  obtain ⟨rb6, Hrb⟩ : ∃ b, Hid (recB h now 6 = b) := ⟨_, rfl⟩
  have AF : Hid (∀ W : World, Calls Try.prog 17 #[.agg #[.int .i64 p, .int .i64 o, .int .i64 i, .int .i64 h], .int .i64 now] W fun e w' => e = .returned (.bool rb6) ∧ Below W.heap.size W w') := fun W => by
    have := alivF_any p o i h now W HH.out HN.out; rwa [Hrb.out] at this
  have AR : Hid (∀ W : World, Calls Try.prog 18 #[.agg #[.int .i64 p, .int .i64 o, .int .i64 i, .int .i64 h], .int .i64 now] W fun e w' => e = .returned (.bool rb6) ∧ Below W.heap.size W w') := fun W => by
    have := alivR_any p o i h now W HH.out HN.out; rwa [Hrb.out] at this
  by_cases he : te = 0
  · subst he
    have hth : th = now := by
      rw [← Hth.out]; unfold tHeard; rw [if_pos Hte.out]
    subst hth
    have AT : Hid (∀ W : World, Calls Try.prog 17 #[.agg #[.int .i64 p, .int .i64 o, .int .i64 ti, .int .i64 th], .int .i64 th] W fun e w' => e = .returned (.bool true) ∧ Below W.heap.size W w') := fun W => by
      have := alivF_any p o ti th th W HN.out HN.out; rwa [rec_self] at this
    go_wp2_with fail
    go_region_held3 (fun W => (W.cell? ⟨w.heap.size, 0, none⟩ = some (.int .i64 p) ∧ W.cell? ⟨w.heap.size, 1, none⟩ = some (.int .i64 o) ∧ W.cell? ⟨w.heap.size, 2, none⟩ = some (.int .i64 i) ∧ W.cell? ⟨w.heap.size, 3, none⟩ = some (.int .i64 h)) ∧ (W.cell? ⟨w2.heap.size, 0, none⟩ = some (.int .i64 p) ∧ W.cell? ⟨w2.heap.size, 1, none⟩ = some (.int .i64 o) ∧ W.cell? ⟨w2.heap.size, 2, none⟩ = some (.int .i64 ti) ∧ W.cell? ⟨w2.heap.size, 3, none⟩ = some (.int .i64 th)) ∧ w.heap.size < W.heap.size ∧ w2.heap.size < W.heap.size ∧ Below w.heap.size w W)
      (first | exact TwoBox.start y2 y3 S2 B2.out | exact TwoBox.next (by assumption) hb')
      (first
        | (go_at_call 17; (with_reducible refine (AT.out _).mono ?_); rintro e w4 ⟨rfl, hb'⟩)
        | (go_at_call 17; (with_reducible refine (AF.out _).mono ?_); rintro e w4 ⟨rfl, hb'⟩)
        | (go_at_call 18; (with_reducible refine (AR.out _).mono ?_); rintro e w4 ⟨rfl, hb'⟩)
        | (go_at_call 9; (with_reducible refine (alive_any _).mono ?_); rintro e w4 ⟨rfl, hb'⟩))
    go_wp2
    go_ret
    exact ⟨rfl, two_bel (w2 := w2) (p := p) (o := o) (i := i) (h := h) (ti := ti) (th := th) (by assumption)⟩
  · have hcase : te = 1 ∨ te = 7 ∨ te = 15 := by
      have := err_cases p i fr sq tm now; rw [Hte.out] at this; omega
    clear he
    rcases hcase with rfl | rfl | rfl
    all_goals
      go_wp2_with fail
      refine wp_region_held_drew (S := (fun W => (W.cell? ⟨w.heap.size, 0, none⟩ = some (.int .i64 p) ∧ W.cell? ⟨w.heap.size, 1, none⟩ = some (.int .i64 o) ∧ W.cell? ⟨w.heap.size, 2, none⟩ = some (.int .i64 i) ∧ W.cell? ⟨w.heap.size, 3, none⟩ = some (.int .i64 h)) ∧ (W.cell? ⟨w2.heap.size, 0, none⟩ = some (.int .i64 p) ∧ W.cell? ⟨w2.heap.size, 1, none⟩ = some (.int .i64 o) ∧ W.cell? ⟨w2.heap.size, 2, none⟩ = some (.int .i64 ti) ∧ W.cell? ⟨w2.heap.size, 3, none⟩ = some (.int .i64 th)) ∧ w.heap.size < W.heap.size ∧ w2.heap.size < W.heap.size ∧ Below w.heap.size w W)) (by kernel_rfl) (TwoBox.start y2 y3 S2 B2.out) (fun hHeld => ?_)
      refine wpAnyH_take (i := 0) (oi := ⟨some 19, _, _, _, _, _⟩) (v := ?_) rfl (by kernel_rfl) (by kernel_rfl) (by kernel_rfl) (fun _ _ _ h => h) (Or.inl ⟨by rfl, ?_⟩) (by assumption) ?_
      rotate_left
      · intro w' hSw
        go_split_ands
        go_simp
        with_reducible rfl
      simp only [Act.put, List.setIfInBounds_toArray, List.set_cons_zero, List.set_cons_succ]
      refine wpAnyH_take (i := 1) (oi := ⟨some 20, _, _, _, _, _⟩) (v := ?_) rfl (by kernel_rfl) (by kernel_rfl) (by kernel_rfl) (fun _ _ _ h => h) (Or.inl ⟨by rfl, ?_⟩) (by assumption) ?_
      rotate_left
      · intro w' hSw
        go_split_ands
        go_simp
        with_reducible rfl
      simp only [Act.put, List.setIfInBounds_toArray, List.set_cons_zero, List.set_cons_succ]
      refine wpAnyH_take (i := 3) (oi := ⟨some 22, _, _, _, _, _⟩) (v := ?_) rfl (by kernel_rfl) (by kernel_rfl) (by kernel_rfl) (fun _ _ _ h => h) (Or.inl ⟨by rfl, ?_⟩) (by assumption) ?_
      rotate_left
      · intro w' hSw
        go_split_ands
        go_simp
        with_reducible rfl
      simp only [Act.put, List.setIfInBounds_toArray, List.set_cons_zero, List.set_cons_succ]
      refine wpAnyH_take (i := 4) (oi := ⟨some 23, _, _, _, _, _⟩) (v := ?_) rfl (by kernel_rfl) (by kernel_rfl) (by kernel_rfl) (fun _ _ _ h => h) (Or.inl ⟨by rfl, ?_⟩) (by assumption) ?_
      rotate_left
      · intro w' hSw
        go_split_ands
        go_simp
        with_reducible rfl
      simp only [Act.put, List.setIfInBounds_toArray, List.set_cons_zero, List.set_cons_succ]
      refine wpAnyH_ready (rs := [2]) (by kernel_rfl) (by simp) ?_
      refine AllReadyH.cons (o := ⟨some 21, _, _, _, _, _⟩) rfl (fun K hK => ?_) AllReadyH.nil
      go_simp
      refine (AF.out _).mono ?_
      rintro e w4 ⟨rfl, hb'⟩
      go_wp2_with fail
      have hKeep := TwoBox.next hHeld hb'
      clear hHeld hb'
      refine hK.out _ _ hKeep (fun hHeld => ?_)
      clear hK K hKeep
      try simp only [Act.put, List.setIfInBounds_toArray, List.set_cons_zero, List.set_cons_succ]
      refine wpAnyH_ready (rs := [5]) (by kernel_rfl) (by simp) ?_
      refine AllReadyH.cons (o := ⟨some 24, _, _, _, _, _⟩) rfl (fun K hK => ?_) AllReadyH.nil
      go_simp
      refine (AR.out _).mono ?_
      rintro e w4 ⟨rfl, hb'⟩
      go_wp2_with fail
      have hKeep := TwoBox.next hHeld hb'
      clear hHeld hb'
      refine hK.out _ _ hKeep (fun hHeld => ?_)
      clear hK K hKeep
      try simp only [Act.put, List.setIfInBounds_toArray, List.set_cons_zero, List.set_cons_succ]
      refine wpAnyH_take (i := 6) (oi := ⟨some 25, _, _, _, _, _⟩) (v := ?_) rfl (by kernel_rfl) (by kernel_rfl) (by kernel_rfl) (fun _ _ _ h => h) (Or.inl ⟨by rfl, ?_⟩) (by assumption) ?_
      rotate_left
      · intro w' hSw
        clear hSw
        go_simp
        try with_reducible rfl
      simp only [Act.put, List.setIfInBounds_toArray, List.set_cons_zero, List.set_cons_succ]
      refine wpAnyH_take (i := 7) (oi := ⟨some 26, _, _, _, _, _⟩) (v := ?_) rfl (by kernel_rfl) (by kernel_rfl) (by kernel_rfl) (fun _ _ _ h => h) (Or.inl ⟨by rfl, ?_⟩) (by assumption) ?_
      rotate_left
      · intro w' hSw
        clear hSw
        go_simp
        try with_reducible rfl
      simp only [Act.put, List.setIfInBounds_toArray, List.set_cons_zero, List.set_cons_succ]
      refine wpAnyH_take (i := 8) (oi := ⟨some 27, _, _, _, _, _⟩) (v := ?_) rfl (by kernel_rfl) (by kernel_rfl) (by kernel_rfl) (fun _ _ _ h => h) (Or.inl ⟨by rfl, ?_⟩) (by assumption) ?_
      rotate_left
      · intro w' hSw
        clear hSw
        go_simp
        try with_reducible rfl
      simp only [Act.put, List.setIfInBounds_toArray, List.set_cons_zero, List.set_cons_succ]
      refine wpAnyH_take (i := 9) (oi := ⟨some 28, _, _, _, _, _⟩) (v := ?_) rfl (by kernel_rfl) (by kernel_rfl) (by kernel_rfl) (fun _ _ _ h => h) (Or.inl ⟨by rfl, ?_⟩) (by assumption) ?_
      rotate_left
      · intro w' hSw
        clear hSw
        go_simp
        try with_reducible rfl
      simp only [Act.put, List.setIfInBounds_toArray, List.set_cons_zero, List.set_cons_succ]
      refine wpAnyH_take (i := 10) (oi := ⟨some 29, _, _, _, _, _⟩) (v := ?_) rfl (by kernel_rfl) (by kernel_rfl) (by kernel_rfl) (fun _ _ _ h => h) (Or.inl ⟨by rfl, ?_⟩) (by assumption) ?_
      rotate_left
      · intro w' hSw
        clear hSw
        go_simp
        try with_reducible rfl
      simp only [Act.put, List.setIfInBounds_toArray, List.set_cons_zero, List.set_cons_succ]
      refine wpAnyH_take (i := 11) (oi := ⟨some 30, _, _, _, _, _⟩) (v := undef) rfl (by kernel_rfl) (by kernel_rfl) (by kernel_rfl) (fun _ _ _ h => h) (Or.inr ⟨by rfl, rfl⟩) (by assumption) ?_
      simp only [Act.put, List.setIfInBounds_toArray, List.set_cons_zero, List.set_cons_succ]
      refine wpAnyH_take (i := 12) (oi := ⟨some 31, _, _, _, _, _⟩) (v := undef) rfl (by kernel_rfl) (by kernel_rfl) (by kernel_rfl) (fun _ _ _ h => h) (Or.inr ⟨by rfl, rfl⟩) (by assumption) ?_
      simp only [Act.put, List.setIfInBounds_toArray, List.set_cons_zero, List.set_cons_succ]
      refine wpAnyH_take (i := 13) (oi := ⟨some 32, _, _, _, _, _⟩) (v := undef) rfl (by kernel_rfl) (by kernel_rfl) (by kernel_rfl) (fun _ _ _ h => h) (Or.inr ⟨by rfl, rfl⟩) (by assumption) ?_
      simp only [Act.put, List.setIfInBounds_toArray, List.set_cons_zero, List.set_cons_succ]
      refine wpAnyH_take (i := 14) (oi := ⟨some 33, _, _, _, _, _⟩) (v := ?_) rfl (by kernel_rfl) (by kernel_rfl) (by kernel_rfl) (fun _ _ _ h => h) (Or.inl ⟨by rfl, ?_⟩) (by assumption) ?_
      rotate_left
      · intro w' hSw
        clear hSw
        go_simp
        try with_reducible rfl
      simp only [Act.put, List.setIfInBounds_toArray, List.set_cons_zero, List.set_cons_succ]
      refine wpAnyH_take (i := 15) (oi := ⟨some 34, _, _, _, _, _⟩) (v := ?_) rfl (by kernel_rfl) (by kernel_rfl) (by kernel_rfl) (fun _ _ _ h => h) (Or.inl ⟨by rfl, ?_⟩) (by assumption) ?_
      rotate_left
      · intro w' hSw
        clear hSw
        go_simp
        try with_reducible rfl
      simp only [Act.put, List.setIfInBounds_toArray, List.set_cons_zero, List.set_cons_succ]
      refine wpAnyH_take (i := 16) (oi := ⟨some 35, _, _, _, _, _⟩) (v := ?_) rfl (by kernel_rfl) (by kernel_rfl) (by kernel_rfl) (fun _ _ _ h => h) (Or.inl ⟨by rfl, ?_⟩) (by assumption) ?_
      rotate_left
      · intro w' hSw
        clear hSw
        go_simp
        try with_reducible rfl
      simp only [Act.put, List.setIfInBounds_toArray, List.set_cons_zero, List.set_cons_succ]
      refine wpAnyH_ready (rs := [17]) (by kernel_rfl) (by simp) ?_
      refine AllReadyH.cons (o := ⟨some 36, _, _, _, _, _⟩) rfl (fun K hK => ?_) AllReadyH.nil
      go_simp
      refine (alive_any _).mono ?_
      rintro e w4 ⟨rfl, hb'⟩
      go_wp2_with fail
      have hKeep := TwoBox.next hHeld hb'
      clear hHeld hb'
      refine hK.out _ _ hKeep (fun hHeld => ?_)
      clear hK K hKeep
      try simp only [Act.put, List.setIfInBounds_toArray, List.set_cons_zero, List.set_cons_succ]
      refine wpAnyH_take (i := 18) (oi := ⟨some 37, _, _, _, _, _⟩) (v := ?_) rfl (by kernel_rfl) (by kernel_rfl) (by kernel_rfl) (fun _ _ _ h => h) (Or.inl ⟨by rfl, ?_⟩) (by assumption) ?_
      rotate_left
      · intro w' hSw
        clear hSw
        go_simp
        try with_reducible rfl
      simp only [Act.put, List.setIfInBounds_toArray, List.set_cons_zero, List.set_cons_succ]
      refine wpAnyH_take (i := 19) (oi := ⟨some 6, _, _, _, _, _⟩) (v := ?_) rfl (by kernel_rfl) (by kernel_rfl) (by kernel_rfl) (fun _ _ _ h => h) (Or.inl ⟨by rfl, ?_⟩) (by assumption) ?_
      rotate_left
      · intro w' hSw
        clear hSw
        go_simp
        try with_reducible rfl
      simp only [Act.put, List.setIfInBounds_toArray, List.set_cons_zero, List.set_cons_succ]
      refine wpAnyH_done (by kernel_rfl) ?_ _
      go_wp2
      go_ret
      exact ⟨rfl, two_bel (w2 := w2) (p := p) (o := o) (i := i) (h := h) (ti := ti) (th := th) hHeld⟩
end Go.Proofs.Ytmicbpeohfmepaa
