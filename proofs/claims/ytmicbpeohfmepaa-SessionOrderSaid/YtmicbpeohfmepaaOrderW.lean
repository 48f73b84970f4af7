/- The walk of SessionOrder. -/
import Derived.Test.YtmicbpeohfmepaaSendNone
import Derived.Test.YtmicbpeohfmepaaMsgs
import Derived.Deep.DeepCutAuto
namespace Go.Proofs.Ytmicbpeohfmepaa
open Go.RowKit
/-- The first loop: k messages were sent. -/
def L1 (w w1 : World) (ts : List Int) (fr tp bg : Int) (v i : Value) (wr : World) : Prop :=
  ∃ k : Nat, k ≤ ts.length ∧ i = .int .i64 k ∧ wr.ownsRow (w1.heap.size + 1) 31 14 v k (mrows fr tp 0 (ts.take k)) ∧ Blk wr w1.heap.size 23 #[.int .i64 tp, .int .i64 k, .int .i64 0, .int .i64 bg] ∧ Below w.heap.size w wr
theorem own_below {w w' : World} {base k : Nat} {v : Value} {us : List Value} (h : w.ownsRow base 31 14 v k us) (hb : Below w.heap.size w w') : w'.ownsRow base 31 14 v k us :=
  World.ownsRow.kept h (row := none) ⟨hb.os, hb.tape, hb.output, hb.size, fun j hj _ => hb.block j hj⟩ (by cases hv : v.ownBlock <;> simp)
theorem own_setCell {w : World} {base k : Nat} {v : Value} {us : List Value} (h : w.ownsRow base 31 14 v k us) {p : Addr} (hp : p.block < base) (u : Value) : (w.setCell p u).ownsRow base 31 14 v k us :=
  World.ownsRow.kept h (row := some p.block) ⟨rfl, rfl, rfl, by simp [World.setCell], fun j _ hj => Below.heap_setCell w p u j (fun e => hj (by rw [e]))⟩ (by
    cases hv : v.ownBlock with
    | none => exact .inl rfl
    | some j => exact .inr (fun e => by injection e with e; have := (World.ownsRow.lt h j hv).1; omega))
theorem own_set4 {w : World} {base k : Nat} {v : Value} {us : List Value} (h : w.ownsRow base 31 14 v k us) (g : Nat) (hg : g < base) (u0 u1 u2 u3 : Value) : ((((w.setCell ⟨g, 0, none⟩ u0).setCell ⟨g, 1, none⟩ u1).setCell ⟨g, 2, none⟩ u2).setCell ⟨g, 3, none⟩ u3).ownsRow base 31 14 v k us :=
  own_setCell (own_setCell (own_setCell (own_setCell h (by exact hg) _) (by exact hg) _) (by exact hg) _) (by exact hg) _
theorem neq_ses (W : World) (a b c d : Int) : (binOp .neq 23 (.agg #[.int .i64 a, .int .i64 b, .int .i64 c, .int .i64 d]) (.agg #[.int .i64 a, .int .i64 b, .int .i64 c, .int .i64 d])).run Try.prog W = .ok (.bool false) W := by
  go_simp
theorem rec_le {t n l : Int} (h : recB t n l = true) : t ≤ n := by
  unfold recB at h; simp at h; exact h.1
theorem u64_four (s n : Int) (hs : InI s) (hn : InI n) (h : recB s n 4 = true) : decide (IntKind.u64.wrap (IntKind.u64.wrap n - IntKind.u64.wrap s) ≤ 4) = true := by
  have := u64_diff s n 4 hs hn (rec_le h) (by omega)
  rw [h] at this
  exact this
/-- The second loop: t lies in its box, and last is the number of the last message that was accepted. -/
def L2 (w2 : World) (m : Nat) (fr : Int) (la i : Value) (wr : World) : Prop :=
  ∃ (k : Nat) (x hd : Int), k ≤ m ∧ i = .int .i64 k ∧ la = .int .i64 x ∧ Blk wr w2.heap.size 23 #[.int .i64 fr, .int .i64 0, .int .i64 x, .int .i64 hd] ∧ Below w2.heap.size w2 wr
/-- The box that Take's session is put into. -/
def OneNew (wq : World) (fr ti th te : Int) (s20 s21 : Value) (wx : World) : Prop :=
  ∃ g : Nat, s20 = .pointer (some ⟨g, 0, none⟩) ∧ s21 = .int .i64 te ∧ wq.heap.size ≤ g ∧ Blk wx g 23 #[.int .i64 fr, .int .i64 0, .int .i64 ti, .int .i64 th] ∧ Below wq.heap.size wq wx
/-- The two boxes that Send's answers are put into. -/
def TwoNew (wr : World) (tp k bg fr z : Int) (s14 s15 : Value) (wx : World) : Prop :=
  ∃ g1 g2 : Nat, s14 = .pointer (some ⟨g1, 0, none⟩) ∧ s15 = .pointer (some ⟨g2, 0, none⟩) ∧ wr.heap.size ≤ g1 ∧ wr.heap.size ≤ g2 ∧
    Blk wx g1 23 #[.int .i64 tp, .int .i64 (k + 1), .int .i64 0, .int .i64 bg] ∧ Blk wx g2 31 (mrow 5 fr tp (k + 1) z).toArray ∧ Below wr.heap.size wr wx
set_option maxRecDepth 100000 in
set_option maxHeartbeats 16000000 in
theorem order_walk (A : Option Addr) (n c : Nat) (ts : List Int) (B : Option Addr) (m d : Nat) (ls : List Int) (fr tp bg : Int) (w : World) (hn : ts.length = n) (hm : ls.length = m * 2) (hts : ∀ z ∈ ts, InI z) (hls : ∀ z ∈ ls, InI z) (hA : RdF w w.heap.size A ts) (hB : RdF w w.heap.size B ls) :
    Calls Try.prog 6 #[.slice A n c, .slice B m d, .int .i64 fr, .int .i64 tp, .int .i64 bg] w fun e w' => e = .returned (.bool true) ∧ Below w.heap.size w w' := by
  have Hn := Lib.hid hn
  have Hm := Lib.hid hm
  have HT := Lib.hid hts
  have HS := Lib.hid hls
  have HA := Lib.hid hA
  have HB := Lib.hid hB
  clear hn hm hts hls hA hB
  go_enter Try.func6, Try.ntmps6
  by_cases h1 : 60 < n
  · go_wp2_with fail
    refine (alive_any _).mono ?_
    rintro e w2 ⟨rfl, hb2⟩
    go_wp2_with fail
    go_ret
    exact ⟨rfl, hb2⟩
  by_cases h2 : 100 < m
  · have h3 : (100 : Int) < (m : Int) := by omega
    go_wp2_with fail
    refine (alive_any _).mono ?_
    rintro e w2 ⟨rfl, hb2⟩
    go_wp2_with fail
    go_ret
    exact ⟨rfl, hb2⟩
  go_wp2_with fail
  refine (new_any tp bg _).mono ?_
  rintro e w1 ⟨rfl, hb1⟩
  have z1 := hb1.size
  have B1 := Lib.hid hb1
  clear hb1
  go_wp2_with fail
  go_loopw [12, 13] (fun v i wr => L1 w w1 ts fr tp bg v i wr) (fun _ i _ => n - (intOf i).toNat)
  case atStart => exact ⟨0, Nat.zero_le _, rfl, World.ownsRow_nil _ _ _ _, Blk.new _ _ _, B1.out.alloc z1 _⟩
  case round =>
    obtain ⟨k, hk, rfl, hown, hbx, hbel⟩ := hrel
    rw [Hn.out] at hk
    have hz := hbel.size
    have hgs := hbx.lt
    have HO := Lib.hid hown
    have HX := Lib.hid hbx
    have HBel := Lib.hid hbel
    clear hown hbx hbel
    obtain ⟨wo, rfl⟩ : ∃ wo : World, wo = wr := ⟨_, rfl⟩
    by_cases hlt : k < n
    · have hlt' : k < ts.length := by rw [Hn.out]; exact hlt
      go_upto_region 8 with fail
      go_cut [14, 15] (fun s14 s15 wx => TwoNew wo tp k bg fr ts[k] s14 s15 wx)
      case first =>
        obtain ⟨b, off, rfl, hbb, hc⟩ := (HA.out.at_world HBel.out).at_ hlt'
        have i0 : (0 : Int) ≤ (k : Int) := by omega
        have i1 : (k : Int) < (n : Int) := by omega
        have hko : InI (k : Int) := by unfold InI; omega
        refine wp_region_held_drew (S := fun W => Below wo.heap.size wo W) (by kernel_rfl) (Below.refl _ _).drew (fun hHeld => ?_)
        refine wpAnyH_take (i := 1) (oi := ⟨some 43, _, _, _, _, _⟩) (v := ?_) rfl (by kernel_rfl) (by kernel_rfl) (by kernel_rfl) (fun _ _ _ h => h) (Or.inl ⟨by rfl, ?_⟩) hHeld ?_
        rotate_left
        · intro w' hSw
          clear hSw
          go_simp
          try with_reducible rfl
        simp only [Act.put, List.setIfInBounds_toArray, List.set_cons_zero, List.set_cons_succ]
        refine wpAnyH_take (i := 2) (oi := ⟨some 44, _, _, _, _, _⟩) (v := ?_) rfl (by kernel_rfl) (by kernel_rfl) (by kernel_rfl) (fun _ _ _ h => h) (Or.inl ⟨by rfl, ?_⟩) hHeld ?_
        rotate_left
        · intro w' hSw
          clear hSw
          go_simp
          try with_reducible rfl
        simp only [Act.put, List.setIfInBounds_toArray, List.set_cons_zero, List.set_cons_succ]
        refine wpAnyH_take (i := 3) (oi := ⟨some 45, _, _, _, _, _⟩) (v := ?_) rfl (by kernel_rfl) (by kernel_rfl) (by kernel_rfl) (fun _ _ _ h => h) (Or.inl ⟨by rfl, ?_⟩) hHeld ?_
        rotate_left
        · intro w' hSw
          clear hSw
          go_simp
          try with_reducible rfl
        simp only [Act.put, List.setIfInBounds_toArray, List.set_cons_zero, List.set_cons_succ]
        refine wpAnyH_take (i := 4) (oi := ⟨some 46, _, _, _, _, _⟩) (v := ?_) rfl (by kernel_rfl) (by kernel_rfl) (by kernel_rfl) (fun _ _ _ h => h) (Or.inl ⟨by rfl, ?_⟩) hHeld ?_
        rotate_left
        · intro w' hSw
          clear hSw
          go_simp
          try with_reducible rfl
        simp only [Act.put, List.setIfInBounds_toArray, List.set_cons_zero, List.set_cons_succ]
        refine wpAnyH_take (i := 5) (oi := ⟨some 47, _, _, _, _, _⟩) (v := ?_) rfl (by kernel_rfl) (by kernel_rfl) (by kernel_rfl) (fun _ _ _ h => h) (Or.inl ⟨by rfl, ?_⟩) hHeld ?_
        rotate_left
        · intro w' hSw
          clear hSw
          go_simp
          try with_reducible rfl
        simp only [Act.put, List.setIfInBounds_toArray, List.set_cons_zero, List.set_cons_succ]
        refine wpAnyH_take (i := 0) (oi := ⟨some 42, _, _, _, _, _⟩) (v := ?_) rfl (by kernel_rfl) (by kernel_rfl) (by kernel_rfl) (fun _ _ _ h => h) (Or.inl ⟨by rfl, ?_⟩) hHeld ?_
        rotate_left
        · intro w' hSw
          obtain ⟨c0, c1, c2, c3⟩ := (HX.out.call hSw).four
          clear hSw
          go_simp
          try with_reducible rfl
        simp only [Act.put, List.setIfInBounds_toArray, List.set_cons_zero, List.set_cons_succ]
        refine wpAnyH_take (i := 6) (oi := ⟨some 48, _, _, _, _, _⟩) (v := ?_) rfl (by kernel_rfl) (by kernel_rfl) (by kernel_rfl) (fun _ _ _ h => h) (Or.inl ⟨by rfl, ?_⟩) hHeld ?_
        rotate_left
        · intro w' hSw
          have hc' := (Below.cell hSw (p := ⟨b, off + k, none⟩) hbb).trans hc
          clear hSw
          go_simp
          try with_reducible rfl
        simp only [Act.put, List.setIfInBounds_toArray, List.set_cons_zero, List.set_cons_succ]
        refine to_letter (fun V => Below wo.heap.size wo V) (hHeld) ?_
        intro V0 hHeld
        refine wpAnyH_ready (rs := [7, 11, 12]) (by kernel_rfl) (by simp) ?_
        refine AllReadyH.cons (o := ⟨some 49, _, _, _, _, _⟩) rfl (fun K hK => ?_) ?_
        · have HH := Lib.hid hHeld
          clear hHeld
          go_simp
          refine (send_none tp k 0 bg 5 fr ts[k] _ (by omega) hko).mono ?_
          rintro e w4 ⟨rfl, hb4⟩
          have y4 := hb4.size
          go_wp2_with fail
          refine hK.out _ _ (carry HH.out hb4) (fun _ => ?_)
          clear hK K
          try simp only [Act.put, List.setIfInBounds_toArray, List.set_cons_zero, List.set_cons_succ]
          refine to_letter (fun V => Below wo.heap.size wo V) (carry HH.out hb4) ?_
          intro V1 hHeld
          clear HH hb4
          refine wpAnyH_take (i := 8) (oi := ⟨some 41, _, _, _, _, _⟩) (v := ?_) rfl (by kernel_rfl) (by kernel_rfl) (by kernel_rfl) (fun _ _ _ h => h) (Or.inl ⟨by rfl, ?_⟩) hHeld ?_
          rotate_left
          · intro w' hSw
            clear hSw
            go_simp
            try with_reducible rfl
          simp only [Act.put, List.setIfInBounds_toArray, List.set_cons_zero, List.set_cons_succ]
          refine wpAnyH_take (i := 9) (oi := ⟨some 50, _, _, _, _, _⟩) (v := ?_) rfl (by kernel_rfl) (by kernel_rfl) (by kernel_rfl) (fun _ _ _ h => h) (Or.inl ⟨by rfl, ?_⟩) hHeld ?_
          rotate_left
          · intro w' hSw
            clear hSw
            go_simp
            try with_reducible rfl
          simp only [Act.put, List.setIfInBounds_toArray, List.set_cons_zero, List.set_cons_succ]
          refine wpAnyH_take (i := 10) (oi := ⟨some 51, _, _, _, _, _⟩) (v := ?_) rfl (by kernel_rfl) (by kernel_rfl) (by kernel_rfl) (fun _ _ _ h => h) (Or.inl ⟨by rfl, ?_⟩) hHeld ?_
          rotate_left
          · intro w' hSw
            clear hSw
            go_simp
            try with_reducible rfl
          simp only [Act.put, List.setIfInBounds_toArray, List.set_cons_zero, List.set_cons_succ]
          refine wpAnyH_ready (rs := [11, 12]) (by kernel_rfl) (by simp) ?_
          refine AllReadyH.cons (o := ⟨some 14, _, _, _, _, _⟩) rfl (fun K hK => ?_) ?_
          · have HH := Lib.hid hHeld
            clear hHeld
            go_simp
            have y1 := HH.out.size
            refine hK.out _ _ (HH.out.alloc HH.out.size _) (fun _ => ?_)
            clear hK K
            try simp only [Act.put, List.setIfInBounds_toArray, List.set_cons_zero, List.set_cons_succ]
            refine to_letter (fun V => Below wo.heap.size wo V ∧ Blk V V1.heap.size 23 #[.int .i64 0, .int .i64 0, .int .i64 0, .int .i64 0]) ⟨HH.out.alloc HH.out.size _, Blk.new _ _ _⟩ ?_
            rintro V2 ⟨hHeld, N1⟩
            clear HH
            refine wpAnyH_ready (rs := [12]) (by kernel_rfl) (by simp) ?_
            refine AllReadyH.cons (o := ⟨some 15, _, _, _, _, _⟩) rfl (fun K hK => ?_) ?_
            · have ne21 : V2.heap.size ≠ V1.heap.size := Nat.ne_of_gt N1.lt
              have HH := Lib.hid hHeld
              clear hHeld
              go_simp
              have y2 := HH.out.size
              refine hK.out _ _ (HH.out.alloc HH.out.size _) (fun _ => ?_)
              clear hK K
              try simp only [Act.put, List.setIfInBounds_toArray, List.set_cons_zero, List.set_cons_succ]
              refine to_letter (fun V => Below wo.heap.size wo V ∧ Blk V V1.heap.size 23 #[.int .i64 0, .int .i64 0, .int .i64 0, .int .i64 0] ∧ Blk V V2.heap.size 31 #[.int .i64 0, .int .i64 0, .int .i64 0, .int .i64 0, .int .i64 0, .int .i64 0, .int .i64 0, .slice none 0 0, .slice none 0 0, .int .i64 0, .int .i64 0, .int .i64 0, .int .i64 0, .bool false]) ⟨HH.out.alloc HH.out.size _, N1.alloc _, Blk.new _ _ _⟩ ?_
              rintro V3 ⟨hHeld, N1, N2⟩
              clear HH
              refine wpAnyH_ready (rs := [13]) (by kernel_rfl) (by simp) ?_
              refine AllReadyH.cons (o := ⟨none, _, _, _, _, _⟩) rfl (fun K hK => ?_) AllReadyH.nil
              obtain ⟨c0, c1, c2, c3⟩ := N1.four
              obtain ⟨f0, f1, f2, f3⟩ := N1.free4
              have HH := Lib.hid hHeld
              clear hHeld
              go_simp
              refine hK.out _ _ (below_set4 HH.out V1.heap.size y1 _ _ _ _) (fun _ => ?_)
              clear hK K c0 c1 c2 c3 f0 f1 f2 f3
              try simp only [Act.put, List.setIfInBounds_toArray, List.set_cons_zero, List.set_cons_succ]
              refine to_letter (fun V => Below wo.heap.size wo V ∧ Blk V V1.heap.size 23 #[.int .i64 tp, .int .i64 (k + 1), .int .i64 0, .int .i64 bg] ∧ Blk V V2.heap.size 31 #[.int .i64 0, .int .i64 0, .int .i64 0, .int .i64 0, .int .i64 0, .int .i64 0, .int .i64 0, .slice none 0 0, .slice none 0 0, .int .i64 0, .int .i64 0, .int .i64 0, .int .i64 0, .bool false]) ⟨below_set4 HH.out V1.heap.size y1 _ _ _ _, N1.set4 _ _ _ _, N2.far4 (ne21) _ _ _ _⟩ ?_
              clear N1 N2 HH
              rintro U ⟨hHeld, N1, N2⟩
              refine wpAnyH_ready (rs := [14]) (by kernel_rfl) (by simp) ?_
              refine AllReadyH.cons (o := ⟨none, _, _, _, _, _⟩) rfl (fun K hK => ?_) AllReadyH.nil
              obtain ⟨⟨c0, c1, c2, c3, c4, c5, c6⟩, c7, c8, c9, c10, c11, c12, c13⟩ := N2.cells14
              obtain ⟨⟨f0, f1, f2, f3, f4, f5, f6⟩, f7, f8, f9, f10, f11, f12, f13⟩ := N2.free14
              have HH := Lib.hid hHeld
              clear hHeld
              go_simp
              refine hK.out _ _ (below_set14 HH.out V2.heap.size y2 _ _ _ _ _ _ _ _ _ _ _ _ _ _) (fun _ => ?_)
              clear hK K c0 c1 c2 c3 c4 c5 c6 c7 c8 c9 c10 c11 c12 c13 f0 f1 f2 f3 f4 f5 f6 f7 f8 f9 f10 f11 f12 f13
              try simp only [Act.put, List.setIfInBounds_toArray, List.set_cons_zero, List.set_cons_succ]
              refine to_letter (fun V => Below wo.heap.size wo V ∧ Blk V V1.heap.size 23 #[.int .i64 tp, .int .i64 (k + 1), .int .i64 0, .int .i64 bg] ∧ Blk V V2.heap.size 31 (mrow 5 fr tp (k + 1) ts[k]).toArray) ⟨below_set14 HH.out V2.heap.size y2 _ _ _ _ _ _ _ _ _ _ _ _ _ _, N1.far14 (ne21.symm) _ _ _ _ _ _ _ _ _ _ _ _ _ _, N2.set14 _ _ _ _ _ _ _ _ _ _ _ _ _ _⟩ ?_
              clear N1 N2 HH
              rintro U ⟨hHeld, N1, N2⟩
              refine wpAnyH_done (by kernel_rfl) ?_ _
              have TN : Hid (TwoNew wo tp k bg fr ts[k] (.pointer (some ⟨V1.heap.size, 0, none⟩)) (.pointer (some ⟨V2.heap.size, 0, none⟩)) U) := ⟨_, _, rfl, rfl, y1, y2, N1, N2, hHeld⟩
              clear N1 N2 hHeld
              go_wp2_with fail
              go_meet
              exact TN.out
            exact AllReadyH.nil
          refine AllReadyH.cons (o := ⟨some 15, _, _, _, _, _⟩) rfl (fun K hK => ?_) ?_
          · have HH := Lib.hid hHeld
            clear hHeld
            go_simp
            have y2 := HH.out.size
            refine hK.out _ _ (HH.out.alloc HH.out.size _) (fun _ => ?_)
            clear hK K
            try simp only [Act.put, List.setIfInBounds_toArray, List.set_cons_zero, List.set_cons_succ]
            refine to_letter (fun V => Below wo.heap.size wo V ∧ Blk V V1.heap.size 31 #[.int .i64 0, .int .i64 0, .int .i64 0, .int .i64 0, .int .i64 0, .int .i64 0, .int .i64 0, .slice none 0 0, .slice none 0 0, .int .i64 0, .int .i64 0, .int .i64 0, .int .i64 0, .bool false]) ⟨HH.out.alloc HH.out.size _, Blk.new _ _ _⟩ ?_
            rintro V2 ⟨hHeld, N2⟩
            clear HH
            refine wpAnyH_ready (rs := [11]) (by kernel_rfl) (by simp) ?_
            refine AllReadyH.cons (o := ⟨some 14, _, _, _, _, _⟩) rfl (fun K hK => ?_) ?_
            · have ne12 : V2.heap.size ≠ V1.heap.size := Nat.ne_of_gt N2.lt
              have HH := Lib.hid hHeld
              clear hHeld
              go_simp
              have y1 := HH.out.size
              refine hK.out _ _ (HH.out.alloc HH.out.size _) (fun _ => ?_)
              clear hK K
              try simp only [Act.put, List.setIfInBounds_toArray, List.set_cons_zero, List.set_cons_succ]
              refine to_letter (fun V => Below wo.heap.size wo V ∧ Blk V V2.heap.size 23 #[.int .i64 0, .int .i64 0, .int .i64 0, .int .i64 0] ∧ Blk V V1.heap.size 31 #[.int .i64 0, .int .i64 0, .int .i64 0, .int .i64 0, .int .i64 0, .int .i64 0, .int .i64 0, .slice none 0 0, .slice none 0 0, .int .i64 0, .int .i64 0, .int .i64 0, .int .i64 0, .bool false]) ⟨HH.out.alloc HH.out.size _, Blk.new _ _ _, N2.alloc _⟩ ?_
              rintro V3 ⟨hHeld, N1, N2⟩
              clear HH
              refine wpAnyH_ready (rs := [13]) (by kernel_rfl) (by simp) ?_
              refine AllReadyH.cons (o := ⟨none, _, _, _, _, _⟩) rfl (fun K hK => ?_) AllReadyH.nil
              obtain ⟨c0, c1, c2, c3⟩ := N1.four
              obtain ⟨f0, f1, f2, f3⟩ := N1.free4
              have HH := Lib.hid hHeld
              clear hHeld
              go_simp
              refine hK.out _ _ (below_set4 HH.out V2.heap.size y1 _ _ _ _) (fun _ => ?_)
              clear hK K c0 c1 c2 c3 f0 f1 f2 f3
              try simp only [Act.put, List.setIfInBounds_toArray, List.set_cons_zero, List.set_cons_succ]
              refine to_letter (fun V => Below wo.heap.size wo V ∧ Blk V V2.heap.size 23 #[.int .i64 tp, .int .i64 (k + 1), .int .i64 0, .int .i64 bg] ∧ Blk V V1.heap.size 31 #[.int .i64 0, .int .i64 0, .int .i64 0, .int .i64 0, .int .i64 0, .int .i64 0, .int .i64 0, .slice none 0 0, .slice none 0 0, .int .i64 0, .int .i64 0, .int .i64 0, .int .i64 0, .bool false]) ⟨below_set4 HH.out V2.heap.size y1 _ _ _ _, N1.set4 _ _ _ _, N2.far4 (ne12.symm) _ _ _ _⟩ ?_
              clear N1 N2 HH
              rintro U ⟨hHeld, N1, N2⟩
              refine wpAnyH_ready (rs := [14]) (by kernel_rfl) (by simp) ?_
              refine AllReadyH.cons (o := ⟨none, _, _, _, _, _⟩) rfl (fun K hK => ?_) AllReadyH.nil
              obtain ⟨⟨c0, c1, c2, c3, c4, c5, c6⟩, c7, c8, c9, c10, c11, c12, c13⟩ := N2.cells14
              obtain ⟨⟨f0, f1, f2, f3, f4, f5, f6⟩, f7, f8, f9, f10, f11, f12, f13⟩ := N2.free14
              have HH := Lib.hid hHeld
              clear hHeld
              go_simp
              refine hK.out _ _ (below_set14 HH.out V1.heap.size y2 _ _ _ _ _ _ _ _ _ _ _ _ _ _) (fun _ => ?_)
              clear hK K c0 c1 c2 c3 c4 c5 c6 c7 c8 c9 c10 c11 c12 c13 f0 f1 f2 f3 f4 f5 f6 f7 f8 f9 f10 f11 f12 f13
              try simp only [Act.put, List.setIfInBounds_toArray, List.set_cons_zero, List.set_cons_succ]
              refine to_letter (fun V => Below wo.heap.size wo V ∧ Blk V V2.heap.size 23 #[.int .i64 tp, .int .i64 (k + 1), .int .i64 0, .int .i64 bg] ∧ Blk V V1.heap.size 31 (mrow 5 fr tp (k + 1) ts[k]).toArray) ⟨below_set14 HH.out V1.heap.size y2 _ _ _ _ _ _ _ _ _ _ _ _ _ _, N1.far14 (ne12) _ _ _ _ _ _ _ _ _ _ _ _ _ _, N2.set14 _ _ _ _ _ _ _ _ _ _ _ _ _ _⟩ ?_
              clear N1 N2 HH
              rintro U ⟨hHeld, N1, N2⟩
              refine wpAnyH_done (by kernel_rfl) ?_ _
              have TN : Hid (TwoNew wo tp k bg fr ts[k] (.pointer (some ⟨V2.heap.size, 0, none⟩)) (.pointer (some ⟨V1.heap.size, 0, none⟩)) U) := ⟨_, _, rfl, rfl, y1, y2, N1, N2, hHeld⟩
              clear N1 N2 hHeld
              go_wp2_with fail
              go_meet
              exact TN.out
            exact AllReadyH.nil
          exact AllReadyH.nil
        refine AllReadyH.cons (o := ⟨some 14, _, _, _, _, _⟩) rfl (fun K hK => ?_) ?_
        · have HH := Lib.hid hHeld
          clear hHeld
          go_simp
          have y1 := HH.out.size
          refine hK.out _ _ (HH.out.alloc HH.out.size _) (fun _ => ?_)
          clear hK K
          try simp only [Act.put, List.setIfInBounds_toArray, List.set_cons_zero, List.set_cons_succ]
          refine to_letter (fun V => Below wo.heap.size wo V ∧ Blk V V0.heap.size 23 #[.int .i64 0, .int .i64 0, .int .i64 0, .int .i64 0]) ⟨HH.out.alloc HH.out.size _, Blk.new _ _ _⟩ ?_
          rintro V1 ⟨hHeld, N1⟩
          clear HH
          refine wpAnyH_ready (rs := [7, 12]) (by kernel_rfl) (by simp) ?_
          refine AllReadyH.cons (o := ⟨some 49, _, _, _, _, _⟩) rfl (fun K hK => ?_) ?_
          · have HH := Lib.hid hHeld
            clear hHeld
            go_simp
            refine (send_none tp k 0 bg 5 fr ts[k] _ (by omega) hko).mono ?_
            rintro e w4 ⟨rfl, hb4⟩
            have y4 := hb4.size
            go_wp2_with fail
            refine hK.out _ _ (carry HH.out hb4) (fun _ => ?_)
            clear hK K
            try simp only [Act.put, List.setIfInBounds_toArray, List.set_cons_zero, List.set_cons_succ]
            refine to_letter (fun V => Below wo.heap.size wo V ∧ Blk V V0.heap.size 23 #[.int .i64 0, .int .i64 0, .int .i64 0, .int .i64 0]) ⟨carry HH.out hb4, N1.call hb4⟩ ?_
            rintro V2 ⟨hHeld, N1⟩
            clear HH hb4
            refine wpAnyH_take (i := 8) (oi := ⟨some 41, _, _, _, _, _⟩) (v := ?_) rfl (by kernel_rfl) (by kernel_rfl) (by kernel_rfl) (fun _ _ _ h => h) (Or.inl ⟨by rfl, ?_⟩) hHeld ?_
            rotate_left
            · intro w' hSw
              clear hSw
              go_simp
              try with_reducible rfl
            simp only [Act.put, List.setIfInBounds_toArray, List.set_cons_zero, List.set_cons_succ]
            refine wpAnyH_take (i := 9) (oi := ⟨some 50, _, _, _, _, _⟩) (v := ?_) rfl (by kernel_rfl) (by kernel_rfl) (by kernel_rfl) (fun _ _ _ h => h) (Or.inl ⟨by rfl, ?_⟩) hHeld ?_
            rotate_left
            · intro w' hSw
              clear hSw
              go_simp
              try with_reducible rfl
            simp only [Act.put, List.setIfInBounds_toArray, List.set_cons_zero, List.set_cons_succ]
            refine wpAnyH_take (i := 10) (oi := ⟨some 51, _, _, _, _, _⟩) (v := ?_) rfl (by kernel_rfl) (by kernel_rfl) (by kernel_rfl) (fun _ _ _ h => h) (Or.inl ⟨by rfl, ?_⟩) hHeld ?_
            rotate_left
            · intro w' hSw
              clear hSw
              go_simp
              try with_reducible rfl
            simp only [Act.put, List.setIfInBounds_toArray, List.set_cons_zero, List.set_cons_succ]
            refine wpAnyH_ready (rs := [12]) (by kernel_rfl) (by simp) ?_
            refine AllReadyH.cons (o := ⟨some 15, _, _, _, _, _⟩) rfl (fun K hK => ?_) ?_
            · have ne21 : V2.heap.size ≠ V0.heap.size := Nat.ne_of_gt N1.lt
              have HH := Lib.hid hHeld
              clear hHeld
              go_simp
              have y2 := HH.out.size
              refine hK.out _ _ (HH.out.alloc HH.out.size _) (fun _ => ?_)
              clear hK K
              try simp only [Act.put, List.setIfInBounds_toArray, List.set_cons_zero, List.set_cons_succ]
              refine to_letter (fun V => Below wo.heap.size wo V ∧ Blk V V0.heap.size 23 #[.int .i64 0, .int .i64 0, .int .i64 0, .int .i64 0] ∧ Blk V V2.heap.size 31 #[.int .i64 0, .int .i64 0, .int .i64 0, .int .i64 0, .int .i64 0, .int .i64 0, .int .i64 0, .slice none 0 0, .slice none 0 0, .int .i64 0, .int .i64 0, .int .i64 0, .int .i64 0, .bool false]) ⟨HH.out.alloc HH.out.size _, N1.alloc _, Blk.new _ _ _⟩ ?_
              rintro V3 ⟨hHeld, N1, N2⟩
              clear HH
              refine wpAnyH_ready (rs := [13]) (by kernel_rfl) (by simp) ?_
              refine AllReadyH.cons (o := ⟨none, _, _, _, _, _⟩) rfl (fun K hK => ?_) AllReadyH.nil
              obtain ⟨c0, c1, c2, c3⟩ := N1.four
              obtain ⟨f0, f1, f2, f3⟩ := N1.free4
              have HH := Lib.hid hHeld
              clear hHeld
              go_simp
              refine hK.out _ _ (below_set4 HH.out V0.heap.size y1 _ _ _ _) (fun _ => ?_)
              clear hK K c0 c1 c2 c3 f0 f1 f2 f3
              try simp only [Act.put, List.setIfInBounds_toArray, List.set_cons_zero, List.set_cons_succ]
              refine to_letter (fun V => Below wo.heap.size wo V ∧ Blk V V0.heap.size 23 #[.int .i64 tp, .int .i64 (k + 1), .int .i64 0, .int .i64 bg] ∧ Blk V V2.heap.size 31 #[.int .i64 0, .int .i64 0, .int .i64 0, .int .i64 0, .int .i64 0, .int .i64 0, .int .i64 0, .slice none 0 0, .slice none 0 0, .int .i64 0, .int .i64 0, .int .i64 0, .int .i64 0, .bool false]) ⟨below_set4 HH.out V0.heap.size y1 _ _ _ _, N1.set4 _ _ _ _, N2.far4 (ne21) _ _ _ _⟩ ?_
              clear N1 N2 HH
              rintro U ⟨hHeld, N1, N2⟩
              refine wpAnyH_ready (rs := [14]) (by kernel_rfl) (by simp) ?_
              refine AllReadyH.cons (o := ⟨none, _, _, _, _, _⟩) rfl (fun K hK => ?_) AllReadyH.nil
              obtain ⟨⟨c0, c1, c2, c3, c4, c5, c6⟩, c7, c8, c9, c10, c11, c12, c13⟩ := N2.cells14
              obtain ⟨⟨f0, f1, f2, f3, f4, f5, f6⟩, f7, f8, f9, f10, f11, f12, f13⟩ := N2.free14
              have HH := Lib.hid hHeld
              clear hHeld
              go_simp
              refine hK.out _ _ (below_set14 HH.out V2.heap.size y2 _ _ _ _ _ _ _ _ _ _ _ _ _ _) (fun _ => ?_)
              clear hK K c0 c1 c2 c3 c4 c5 c6 c7 c8 c9 c10 c11 c12 c13 f0 f1 f2 f3 f4 f5 f6 f7 f8 f9 f10 f11 f12 f13
              try simp only [Act.put, List.setIfInBounds_toArray, List.set_cons_zero, List.set_cons_succ]
              refine to_letter (fun V => Below wo.heap.size wo V ∧ Blk V V0.heap.size 23 #[.int .i64 tp, .int .i64 (k + 1), .int .i64 0, .int .i64 bg] ∧ Blk V V2.heap.size 31 (mrow 5 fr tp (k + 1) ts[k]).toArray) ⟨below_set14 HH.out V2.heap.size y2 _ _ _ _ _ _ _ _ _ _ _ _ _ _, N1.far14 (ne21.symm) _ _ _ _ _ _ _ _ _ _ _ _ _ _, N2.set14 _ _ _ _ _ _ _ _ _ _ _ _ _ _⟩ ?_
              clear N1 N2 HH
              rintro U ⟨hHeld, N1, N2⟩
              refine wpAnyH_done (by kernel_rfl) ?_ _
              have TN : Hid (TwoNew wo tp k bg fr ts[k] (.pointer (some ⟨V0.heap.size, 0, none⟩)) (.pointer (some ⟨V2.heap.size, 0, none⟩)) U) := ⟨_, _, rfl, rfl, y1, y2, N1, N2, hHeld⟩
              clear N1 N2 hHeld
              go_wp2_with fail
              go_meet
              exact TN.out
            exact AllReadyH.nil
          refine AllReadyH.cons (o := ⟨some 15, _, _, _, _, _⟩) rfl (fun K hK => ?_) ?_
          · have ne21 : V1.heap.size ≠ V0.heap.size := Nat.ne_of_gt N1.lt
            have HH := Lib.hid hHeld
            clear hHeld
            go_simp
            have y2 := HH.out.size
            refine hK.out _ _ (HH.out.alloc HH.out.size _) (fun _ => ?_)
            clear hK K
            try simp only [Act.put, List.setIfInBounds_toArray, List.set_cons_zero, List.set_cons_succ]
            refine to_letter (fun V => Below wo.heap.size wo V ∧ Blk V V0.heap.size 23 #[.int .i64 0, .int .i64 0, .int .i64 0, .int .i64 0] ∧ Blk V V1.heap.size 31 #[.int .i64 0, .int .i64 0, .int .i64 0, .int .i64 0, .int .i64 0, .int .i64 0, .int .i64 0, .slice none 0 0, .slice none 0 0, .int .i64 0, .int .i64 0, .int .i64 0, .int .i64 0, .bool false]) ⟨HH.out.alloc HH.out.size _, N1.alloc _, Blk.new _ _ _⟩ ?_
            rintro V2 ⟨hHeld, N1, N2⟩
            clear HH
            refine wpAnyH_ready (rs := [7]) (by kernel_rfl) (by simp) ?_
            refine AllReadyH.cons (o := ⟨some 49, _, _, _, _, _⟩) rfl (fun K hK => ?_) ?_
            · have HH := Lib.hid hHeld
              clear hHeld
              go_simp
              refine (send_none tp k 0 bg 5 fr ts[k] _ (by omega) hko).mono ?_
              rintro e w4 ⟨rfl, hb4⟩
              have y4 := hb4.size
              go_wp2_with fail
              refine hK.out _ _ (carry HH.out hb4) (fun _ => ?_)
              clear hK K
              try simp only [Act.put, List.setIfInBounds_toArray, List.set_cons_zero, List.set_cons_succ]
              refine to_letter (fun V => Below wo.heap.size wo V ∧ Blk V V0.heap.size 23 #[.int .i64 0, .int .i64 0, .int .i64 0, .int .i64 0] ∧ Blk V V1.heap.size 31 #[.int .i64 0, .int .i64 0, .int .i64 0, .int .i64 0, .int .i64 0, .int .i64 0, .int .i64 0, .slice none 0 0, .slice none 0 0, .int .i64 0, .int .i64 0, .int .i64 0, .int .i64 0, .bool false]) ⟨carry HH.out hb4, N1.call hb4, N2.call hb4⟩ ?_
              rintro V3 ⟨hHeld, N1, N2⟩
              clear HH hb4
              refine wpAnyH_take (i := 8) (oi := ⟨some 41, _, _, _, _, _⟩) (v := ?_) rfl (by kernel_rfl) (by kernel_rfl) (by kernel_rfl) (fun _ _ _ h => h) (Or.inl ⟨by rfl, ?_⟩) hHeld ?_
              rotate_left
              · intro w' hSw
                clear hSw
                go_simp
                try with_reducible rfl
              simp only [Act.put, List.setIfInBounds_toArray, List.set_cons_zero, List.set_cons_succ]
              refine wpAnyH_take (i := 9) (oi := ⟨some 50, _, _, _, _, _⟩) (v := ?_) rfl (by kernel_rfl) (by kernel_rfl) (by kernel_rfl) (fun _ _ _ h => h) (Or.inl ⟨by rfl, ?_⟩) hHeld ?_
              rotate_left
              · intro w' hSw
                clear hSw
                go_simp
                try with_reducible rfl
              simp only [Act.put, List.setIfInBounds_toArray, List.set_cons_zero, List.set_cons_succ]
              refine wpAnyH_take (i := 10) (oi := ⟨some 51, _, _, _, _, _⟩) (v := ?_) rfl (by kernel_rfl) (by kernel_rfl) (by kernel_rfl) (fun _ _ _ h => h) (Or.inl ⟨by rfl, ?_⟩) hHeld ?_
              rotate_left
              · intro w' hSw
                clear hSw
                go_simp
                try with_reducible rfl
              simp only [Act.put, List.setIfInBounds_toArray, List.set_cons_zero, List.set_cons_succ]
              refine wpAnyH_ready (rs := [13]) (by kernel_rfl) (by simp) ?_
              refine AllReadyH.cons (o := ⟨none, _, _, _, _, _⟩) rfl (fun K hK => ?_) AllReadyH.nil
              obtain ⟨c0, c1, c2, c3⟩ := N1.four
              obtain ⟨f0, f1, f2, f3⟩ := N1.free4
              have HH := Lib.hid hHeld
              clear hHeld
              go_simp
              refine hK.out _ _ (below_set4 HH.out V0.heap.size y1 _ _ _ _) (fun _ => ?_)
              clear hK K c0 c1 c2 c3 f0 f1 f2 f3
              try simp only [Act.put, List.setIfInBounds_toArray, List.set_cons_zero, List.set_cons_succ]
              refine to_letter (fun V => Below wo.heap.size wo V ∧ Blk V V0.heap.size 23 #[.int .i64 tp, .int .i64 (k + 1), .int .i64 0, .int .i64 bg] ∧ Blk V V1.heap.size 31 #[.int .i64 0, .int .i64 0, .int .i64 0, .int .i64 0, .int .i64 0, .int .i64 0, .int .i64 0, .slice none 0 0, .slice none 0 0, .int .i64 0, .int .i64 0, .int .i64 0, .int .i64 0, .bool false]) ⟨below_set4 HH.out V0.heap.size y1 _ _ _ _, N1.set4 _ _ _ _, N2.far4 (ne21) _ _ _ _⟩ ?_
              clear N1 N2 HH
              rintro U ⟨hHeld, N1, N2⟩
              refine wpAnyH_ready (rs := [14]) (by kernel_rfl) (by simp) ?_
              refine AllReadyH.cons (o := ⟨none, _, _, _, _, _⟩) rfl (fun K hK => ?_) AllReadyH.nil
              obtain ⟨⟨c0, c1, c2, c3, c4, c5, c6⟩, c7, c8, c9, c10, c11, c12, c13⟩ := N2.cells14
              obtain ⟨⟨f0, f1, f2, f3, f4, f5, f6⟩, f7, f8, f9, f10, f11, f12, f13⟩ := N2.free14
              have HH := Lib.hid hHeld
              clear hHeld
              go_simp
              refine hK.out _ _ (below_set14 HH.out V1.heap.size y2 _ _ _ _ _ _ _ _ _ _ _ _ _ _) (fun _ => ?_)
              clear hK K c0 c1 c2 c3 c4 c5 c6 c7 c8 c9 c10 c11 c12 c13 f0 f1 f2 f3 f4 f5 f6 f7 f8 f9 f10 f11 f12 f13
              try simp only [Act.put, List.setIfInBounds_toArray, List.set_cons_zero, List.set_cons_succ]
              refine to_letter (fun V => Below wo.heap.size wo V ∧ Blk V V0.heap.size 23 #[.int .i64 tp, .int .i64 (k + 1), .int .i64 0, .int .i64 bg] ∧ Blk V V1.heap.size 31 (mrow 5 fr tp (k + 1) ts[k]).toArray) ⟨below_set14 HH.out V1.heap.size y2 _ _ _ _ _ _ _ _ _ _ _ _ _ _, N1.far14 (ne21.symm) _ _ _ _ _ _ _ _ _ _ _ _ _ _, N2.set14 _ _ _ _ _ _ _ _ _ _ _ _ _ _⟩ ?_
              clear N1 N2 HH
              rintro U ⟨hHeld, N1, N2⟩
              refine wpAnyH_done (by kernel_rfl) ?_ _
              have TN : Hid (TwoNew wo tp k bg fr ts[k] (.pointer (some ⟨V0.heap.size, 0, none⟩)) (.pointer (some ⟨V1.heap.size, 0, none⟩)) U) := ⟨_, _, rfl, rfl, y1, y2, N1, N2, hHeld⟩
              clear N1 N2 hHeld
              go_wp2_with fail
              go_meet
              exact TN.out
            exact AllReadyH.nil
          exact AllReadyH.nil
        refine AllReadyH.cons (o := ⟨some 15, _, _, _, _, _⟩) rfl (fun K hK => ?_) ?_
        · have HH := Lib.hid hHeld
          clear hHeld
          go_simp
          have y2 := HH.out.size
          refine hK.out _ _ (HH.out.alloc HH.out.size _) (fun _ => ?_)
          clear hK K
          try simp only [Act.put, List.setIfInBounds_toArray, List.set_cons_zero, List.set_cons_succ]
          refine to_letter (fun V => Below wo.heap.size wo V ∧ Blk V V0.heap.size 31 #[.int .i64 0, .int .i64 0, .int .i64 0, .int .i64 0, .int .i64 0, .int .i64 0, .int .i64 0, .slice none 0 0, .slice none 0 0, .int .i64 0, .int .i64 0, .int .i64 0, .int .i64 0, .bool false]) ⟨HH.out.alloc HH.out.size _, Blk.new _ _ _⟩ ?_
          rintro V1 ⟨hHeld, N2⟩
          clear HH
          refine wpAnyH_ready (rs := [7, 11]) (by kernel_rfl) (by simp) ?_
          refine AllReadyH.cons (o := ⟨some 49, _, _, _, _, _⟩) rfl (fun K hK => ?_) ?_
          · have HH := Lib.hid hHeld
            clear hHeld
            go_simp
            refine (send_none tp k 0 bg 5 fr ts[k] _ (by omega) hko).mono ?_
            rintro e w4 ⟨rfl, hb4⟩
            have y4 := hb4.size
            go_wp2_with fail
            refine hK.out _ _ (carry HH.out hb4) (fun _ => ?_)
            clear hK K
            try simp only [Act.put, List.setIfInBounds_toArray, List.set_cons_zero, List.set_cons_succ]
            refine to_letter (fun V => Below wo.heap.size wo V ∧ Blk V V0.heap.size 31 #[.int .i64 0, .int .i64 0, .int .i64 0, .int .i64 0, .int .i64 0, .int .i64 0, .int .i64 0, .slice none 0 0, .slice none 0 0, .int .i64 0, .int .i64 0, .int .i64 0, .int .i64 0, .bool false]) ⟨carry HH.out hb4, N2.call hb4⟩ ?_
            rintro V2 ⟨hHeld, N2⟩
            clear HH hb4
            refine wpAnyH_take (i := 8) (oi := ⟨some 41, _, _, _, _, _⟩) (v := ?_) rfl (by kernel_rfl) (by kernel_rfl) (by kernel_rfl) (fun _ _ _ h => h) (Or.inl ⟨by rfl, ?_⟩) hHeld ?_
            rotate_left
            · intro w' hSw
              clear hSw
              go_simp
              try with_reducible rfl
            simp only [Act.put, List.setIfInBounds_toArray, List.set_cons_zero, List.set_cons_succ]
            refine wpAnyH_take (i := 9) (oi := ⟨some 50, _, _, _, _, _⟩) (v := ?_) rfl (by kernel_rfl) (by kernel_rfl) (by kernel_rfl) (fun _ _ _ h => h) (Or.inl ⟨by rfl, ?_⟩) hHeld ?_
            rotate_left
            · intro w' hSw
              clear hSw
              go_simp
              try with_reducible rfl
            simp only [Act.put, List.setIfInBounds_toArray, List.set_cons_zero, List.set_cons_succ]
            refine wpAnyH_take (i := 10) (oi := ⟨some 51, _, _, _, _, _⟩) (v := ?_) rfl (by kernel_rfl) (by kernel_rfl) (by kernel_rfl) (fun _ _ _ h => h) (Or.inl ⟨by rfl, ?_⟩) hHeld ?_
            rotate_left
            · intro w' hSw
              clear hSw
              go_simp
              try with_reducible rfl
            simp only [Act.put, List.setIfInBounds_toArray, List.set_cons_zero, List.set_cons_succ]
            refine wpAnyH_ready (rs := [11]) (by kernel_rfl) (by simp) ?_
            refine AllReadyH.cons (o := ⟨some 14, _, _, _, _, _⟩) rfl (fun K hK => ?_) ?_
            · have ne12 : V2.heap.size ≠ V0.heap.size := Nat.ne_of_gt N2.lt
              have HH := Lib.hid hHeld
              clear hHeld
              go_simp
              have y1 := HH.out.size
              refine hK.out _ _ (HH.out.alloc HH.out.size _) (fun _ => ?_)
              clear hK K
              try simp only [Act.put, List.setIfInBounds_toArray, List.set_cons_zero, List.set_cons_succ]
              refine to_letter (fun V => Below wo.heap.size wo V ∧ Blk V V2.heap.size 23 #[.int .i64 0, .int .i64 0, .int .i64 0, .int .i64 0] ∧ Blk V V0.heap.size 31 #[.int .i64 0, .int .i64 0, .int .i64 0, .int .i64 0, .int .i64 0, .int .i64 0, .int .i64 0, .slice none 0 0, .slice none 0 0, .int .i64 0, .int .i64 0, .int .i64 0, .int .i64 0, .bool false]) ⟨HH.out.alloc HH.out.size _, Blk.new _ _ _, N2.alloc _⟩ ?_
              rintro V3 ⟨hHeld, N1, N2⟩
              clear HH
              refine wpAnyH_ready (rs := [13]) (by kernel_rfl) (by simp) ?_
              refine AllReadyH.cons (o := ⟨none, _, _, _, _, _⟩) rfl (fun K hK => ?_) AllReadyH.nil
              obtain ⟨c0, c1, c2, c3⟩ := N1.four
              obtain ⟨f0, f1, f2, f3⟩ := N1.free4
              have HH := Lib.hid hHeld
              clear hHeld
              go_simp
              refine hK.out _ _ (below_set4 HH.out V2.heap.size y1 _ _ _ _) (fun _ => ?_)
              clear hK K c0 c1 c2 c3 f0 f1 f2 f3
              try simp only [Act.put, List.setIfInBounds_toArray, List.set_cons_zero, List.set_cons_succ]
              refine to_letter (fun V => Below wo.heap.size wo V ∧ Blk V V2.heap.size 23 #[.int .i64 tp, .int .i64 (k + 1), .int .i64 0, .int .i64 bg] ∧ Blk V V0.heap.size 31 #[.int .i64 0, .int .i64 0, .int .i64 0, .int .i64 0, .int .i64 0, .int .i64 0, .int .i64 0, .slice none 0 0, .slice none 0 0, .int .i64 0, .int .i64 0, .int .i64 0, .int .i64 0, .bool false]) ⟨below_set4 HH.out V2.heap.size y1 _ _ _ _, N1.set4 _ _ _ _, N2.far4 (ne12.symm) _ _ _ _⟩ ?_
              clear N1 N2 HH
              rintro U ⟨hHeld, N1, N2⟩
              refine wpAnyH_ready (rs := [14]) (by kernel_rfl) (by simp) ?_
              refine AllReadyH.cons (o := ⟨none, _, _, _, _, _⟩) rfl (fun K hK => ?_) AllReadyH.nil
              obtain ⟨⟨c0, c1, c2, c3, c4, c5, c6⟩, c7, c8, c9, c10, c11, c12, c13⟩ := N2.cells14
              obtain ⟨⟨f0, f1, f2, f3, f4, f5, f6⟩, f7, f8, f9, f10, f11, f12, f13⟩ := N2.free14
              have HH := Lib.hid hHeld
              clear hHeld
              go_simp
              refine hK.out _ _ (below_set14 HH.out V0.heap.size y2 _ _ _ _ _ _ _ _ _ _ _ _ _ _) (fun _ => ?_)
              clear hK K c0 c1 c2 c3 c4 c5 c6 c7 c8 c9 c10 c11 c12 c13 f0 f1 f2 f3 f4 f5 f6 f7 f8 f9 f10 f11 f12 f13
              try simp only [Act.put, List.setIfInBounds_toArray, List.set_cons_zero, List.set_cons_succ]
              refine to_letter (fun V => Below wo.heap.size wo V ∧ Blk V V2.heap.size 23 #[.int .i64 tp, .int .i64 (k + 1), .int .i64 0, .int .i64 bg] ∧ Blk V V0.heap.size 31 (mrow 5 fr tp (k + 1) ts[k]).toArray) ⟨below_set14 HH.out V0.heap.size y2 _ _ _ _ _ _ _ _ _ _ _ _ _ _, N1.far14 (ne12) _ _ _ _ _ _ _ _ _ _ _ _ _ _, N2.set14 _ _ _ _ _ _ _ _ _ _ _ _ _ _⟩ ?_
              clear N1 N2 HH
              rintro U ⟨hHeld, N1, N2⟩
              refine wpAnyH_done (by kernel_rfl) ?_ _
              have TN : Hid (TwoNew wo tp k bg fr ts[k] (.pointer (some ⟨V2.heap.size, 0, none⟩)) (.pointer (some ⟨V0.heap.size, 0, none⟩)) U) := ⟨_, _, rfl, rfl, y1, y2, N1, N2, hHeld⟩
              clear N1 N2 hHeld
              go_wp2_with fail
              go_meet
              exact TN.out
            exact AllReadyH.nil
          refine AllReadyH.cons (o := ⟨some 14, _, _, _, _, _⟩) rfl (fun K hK => ?_) ?_
          · have ne12 : V1.heap.size ≠ V0.heap.size := Nat.ne_of_gt N2.lt
            have HH := Lib.hid hHeld
            clear hHeld
            go_simp
            have y1 := HH.out.size
            refine hK.out _ _ (HH.out.alloc HH.out.size _) (fun _ => ?_)
            clear hK K
            try simp only [Act.put, List.setIfInBounds_toArray, List.set_cons_zero, List.set_cons_succ]
            refine to_letter (fun V => Below wo.heap.size wo V ∧ Blk V V1.heap.size 23 #[.int .i64 0, .int .i64 0, .int .i64 0, .int .i64 0] ∧ Blk V V0.heap.size 31 #[.int .i64 0, .int .i64 0, .int .i64 0, .int .i64 0, .int .i64 0, .int .i64 0, .int .i64 0, .slice none 0 0, .slice none 0 0, .int .i64 0, .int .i64 0, .int .i64 0, .int .i64 0, .bool false]) ⟨HH.out.alloc HH.out.size _, Blk.new _ _ _, N2.alloc _⟩ ?_
            rintro V2 ⟨hHeld, N1, N2⟩
            clear HH
            refine wpAnyH_ready (rs := [7]) (by kernel_rfl) (by simp) ?_
            refine AllReadyH.cons (o := ⟨some 49, _, _, _, _, _⟩) rfl (fun K hK => ?_) ?_
            · have HH := Lib.hid hHeld
              clear hHeld
              go_simp
              refine (send_none tp k 0 bg 5 fr ts[k] _ (by omega) hko).mono ?_
              rintro e w4 ⟨rfl, hb4⟩
              have y4 := hb4.size
              go_wp2_with fail
              refine hK.out _ _ (carry HH.out hb4) (fun _ => ?_)
              clear hK K
              try simp only [Act.put, List.setIfInBounds_toArray, List.set_cons_zero, List.set_cons_succ]
              refine to_letter (fun V => Below wo.heap.size wo V ∧ Blk V V1.heap.size 23 #[.int .i64 0, .int .i64 0, .int .i64 0, .int .i64 0] ∧ Blk V V0.heap.size 31 #[.int .i64 0, .int .i64 0, .int .i64 0, .int .i64 0, .int .i64 0, .int .i64 0, .int .i64 0, .slice none 0 0, .slice none 0 0, .int .i64 0, .int .i64 0, .int .i64 0, .int .i64 0, .bool false]) ⟨carry HH.out hb4, N1.call hb4, N2.call hb4⟩ ?_
              rintro V3 ⟨hHeld, N1, N2⟩
              clear HH hb4
              refine wpAnyH_take (i := 8) (oi := ⟨some 41, _, _, _, _, _⟩) (v := ?_) rfl (by kernel_rfl) (by kernel_rfl) (by kernel_rfl) (fun _ _ _ h => h) (Or.inl ⟨by rfl, ?_⟩) hHeld ?_
              rotate_left
              · intro w' hSw
                clear hSw
                go_simp
                try with_reducible rfl
              simp only [Act.put, List.setIfInBounds_toArray, List.set_cons_zero, List.set_cons_succ]
              refine wpAnyH_take (i := 9) (oi := ⟨some 50, _, _, _, _, _⟩) (v := ?_) rfl (by kernel_rfl) (by kernel_rfl) (by kernel_rfl) (fun _ _ _ h => h) (Or.inl ⟨by rfl, ?_⟩) hHeld ?_
              rotate_left
              · intro w' hSw
                clear hSw
                go_simp
                try with_reducible rfl
              simp only [Act.put, List.setIfInBounds_toArray, List.set_cons_zero, List.set_cons_succ]
              refine wpAnyH_take (i := 10) (oi := ⟨some 51, _, _, _, _, _⟩) (v := ?_) rfl (by kernel_rfl) (by kernel_rfl) (by kernel_rfl) (fun _ _ _ h => h) (Or.inl ⟨by rfl, ?_⟩) hHeld ?_
              rotate_left
              · intro w' hSw
                clear hSw
                go_simp
                try with_reducible rfl
              simp only [Act.put, List.setIfInBounds_toArray, List.set_cons_zero, List.set_cons_succ]
              refine wpAnyH_ready (rs := [13]) (by kernel_rfl) (by simp) ?_
              refine AllReadyH.cons (o := ⟨none, _, _, _, _, _⟩) rfl (fun K hK => ?_) AllReadyH.nil
              obtain ⟨c0, c1, c2, c3⟩ := N1.four
              obtain ⟨f0, f1, f2, f3⟩ := N1.free4
              have HH := Lib.hid hHeld
              clear hHeld
              go_simp
              refine hK.out _ _ (below_set4 HH.out V1.heap.size y1 _ _ _ _) (fun _ => ?_)
              clear hK K c0 c1 c2 c3 f0 f1 f2 f3
              try simp only [Act.put, List.setIfInBounds_toArray, List.set_cons_zero, List.set_cons_succ]
              refine to_letter (fun V => Below wo.heap.size wo V ∧ Blk V V1.heap.size 23 #[.int .i64 tp, .int .i64 (k + 1), .int .i64 0, .int .i64 bg] ∧ Blk V V0.heap.size 31 #[.int .i64 0, .int .i64 0, .int .i64 0, .int .i64 0, .int .i64 0, .int .i64 0, .int .i64 0, .slice none 0 0, .slice none 0 0, .int .i64 0, .int .i64 0, .int .i64 0, .int .i64 0, .bool false]) ⟨below_set4 HH.out V1.heap.size y1 _ _ _ _, N1.set4 _ _ _ _, N2.far4 (ne12.symm) _ _ _ _⟩ ?_
              clear N1 N2 HH
              rintro U ⟨hHeld, N1, N2⟩
              refine wpAnyH_ready (rs := [14]) (by kernel_rfl) (by simp) ?_
              refine AllReadyH.cons (o := ⟨none, _, _, _, _, _⟩) rfl (fun K hK => ?_) AllReadyH.nil
              obtain ⟨⟨c0, c1, c2, c3, c4, c5, c6⟩, c7, c8, c9, c10, c11, c12, c13⟩ := N2.cells14
              obtain ⟨⟨f0, f1, f2, f3, f4, f5, f6⟩, f7, f8, f9, f10, f11, f12, f13⟩ := N2.free14
              have HH := Lib.hid hHeld
              clear hHeld
              go_simp
              refine hK.out _ _ (below_set14 HH.out V0.heap.size y2 _ _ _ _ _ _ _ _ _ _ _ _ _ _) (fun _ => ?_)
              clear hK K c0 c1 c2 c3 c4 c5 c6 c7 c8 c9 c10 c11 c12 c13 f0 f1 f2 f3 f4 f5 f6 f7 f8 f9 f10 f11 f12 f13
              try simp only [Act.put, List.setIfInBounds_toArray, List.set_cons_zero, List.set_cons_succ]
              refine to_letter (fun V => Below wo.heap.size wo V ∧ Blk V V1.heap.size 23 #[.int .i64 tp, .int .i64 (k + 1), .int .i64 0, .int .i64 bg] ∧ Blk V V0.heap.size 31 (mrow 5 fr tp (k + 1) ts[k]).toArray) ⟨below_set14 HH.out V0.heap.size y2 _ _ _ _ _ _ _ _ _ _ _ _ _ _, N1.far14 (ne12) _ _ _ _ _ _ _ _ _ _ _ _ _ _, N2.set14 _ _ _ _ _ _ _ _ _ _ _ _ _ _⟩ ?_
              clear N1 N2 HH
              rintro U ⟨hHeld, N1, N2⟩
              refine wpAnyH_done (by kernel_rfl) ?_ _
              have TN : Hid (TwoNew wo tp k bg fr ts[k] (.pointer (some ⟨V1.heap.size, 0, none⟩)) (.pointer (some ⟨V0.heap.size, 0, none⟩)) U) := ⟨_, _, rfl, rfl, y1, y2, N1, N2, hHeld⟩
              clear N1 N2 hHeld
              go_wp2_with fail
              go_meet
              exact TN.out
            exact AllReadyH.nil
          exact AllReadyH.nil
        exact AllReadyH.nil
      case rest =>
        obtain ⟨g1, g2, rfl, rfl, y1, y2, N1, N2, hb⟩ := hcut
        have zc := hb.size
        have XC := Lib.hid (HX.out.call hb)
        have OC := Lib.hid (own_below HO.out hb)
        have BC := Lib.hid (carry HBel.out hb)
        have M2 := Lib.hid N2
        obtain ⟨b, off, rfl, hbb, hc⟩ := (HA.out.at_world BC.out).at_ hlt'
        clear hb HX HO HBel
        have i0 : (0 : Int) ≤ (k : Int) := by omega
        have i1 : (k : Int) < (n : Int) := by omega
        have hwr : IntKind.i64.wrap ((k : Int) + 1) = (k : Int) + 1 := by rw [IntKind.wrap_i64]; omega
        obtain ⟨⟨m0, m1, m2, m3, m4, m5, m6⟩, m7, m8, m9, m10, m11, m12, m13⟩ := Blk.cells14 N2
        obtain ⟨c0, c1, c2, c3⟩ := N1.four
        obtain ⟨d0, d1, d2, d3⟩ := XC.out.four
        obtain ⟨f0, f1, f2, f3⟩ := XC.out.free4
        have n1 : w1.heap.size ≠ g2 := by omega
        have n2 : w1.heap.size ≠ g1 := by omega
        clear N1 N2
        go_wp2_with fail
        go_quiet (fail)
        go_upto_region 12 with fail
        clear m0 m1 m2 m3 m4 m5 m6 m7 m8 m9 m10 m11 m12 m13 c0 c1 c2 c3 d0 d1 d2 d3 f0 f1 f2 f3 hc
        obtain ⟨V, hV⟩ : ∃ V : World, V = (((((wc.drewN nq).setCell ⟨w1.heap.size, 0, none⟩ (.int .i64 tp)).setCell ⟨w1.heap.size, 1, none⟩ (.int .i64 ((k : Int) + 1))).setCell ⟨w1.heap.size, 2, none⟩ (.int .i64 0)).setCell ⟨w1.heap.size, 3, none⟩ (.int .i64 bg)) := ⟨_, rfl⟩
        rw [← hV]
        have XV : Hid (Blk V w1.heap.size 23 #[.int .i64 tp, .int .i64 ((k : Int) + 1), .int .i64 0, .int .i64 bg]) := by
          show Blk V _ _ _
          rw [hV]; exact Blk.set4 (w := wc.drewN nq) XC.out _ _ _ _
        have MV : Blk V g2 31 (mrow 5 fr tp ((k : Int) + 1) ts[k]).toArray := by
          rw [hV]; exact Blk.far4 (w := wc.drewN nq) M2.out (Ne.symm n1) _ _ _ _
        have OV : Hid (V.ownsRow (w1.heap.size + 1) 31 14 u12 k (mrows fr tp 0 (ts.take k))) := by
          show World.ownsRow _ _ _ _ _ _ _
          rw [hV]; exact own_set4 (w := wc.drewN nq) OC.out w1.heap.size (by omega) _ _ _ _
        have BV : Hid (Below w.heap.size w V) := by
          show Below _ _ _
          rw [hV]; exact below_set4 (w := wc.drewN nq) (below_drewN BC.out nq) w1.heap.size z1 _ _ _ _
        have zV : wc.heap.size = V.heap.size := by rw [hV, size_set4]; rfl
        clear hV XC OC BC M2
        obtain ⟨⟨m0, m1, m2, m3, m4, m5, m6⟩, m7, m8, m9, m10, m11, m12, m13⟩ := Blk.cells14 MV
        have g2V := MV.lt
        clear MV
        have zb : w1.heap.size + 1 ≤ V.heap.size := by omega
        go_wp2_with (first | (at_builtin; refine wpList_snoc _ rfl _ _ rfl (w1.heap.size + 1) k _ _ rfl (World.ownsRow.alloc OV.out _) V.heap.size _ fr tp ((k : Int) + 1) ts[k] rfl (Blk.new V 31 _) (by omega) (by simp; omega) ?_; intro v' w5 hown' hgrow hat; clear hat))
        have HW := Lib.hid hown'
        have HG := Lib.hid hgrow
        clear hown' hgrow
        have lo := (World.ownsRow.lt OV.out)
        refine ⟨⟨k + 1, by rw [Hn.out]; omega, by go_num, by rw [mrows_snoc fr tp ts k hlt']; exact HW.out, ?_, ?_⟩, ?_⟩
        · exact Blk.grown (Blk.alloc XV.out _) HG.out (fun e => by have := (lo _ e.symm).1; omega)
        · exact Below.grown (Below.alloc BV.out (by omega) _) HG.out (by simp; omega) (fun j hj => by have := (lo j hj).1; omega)
        · simp [intOf]; omega
    · have hkn : n = k := by omega
      subst hkn
      rw [List.take_of_length_le (by rw [Hn.out]; omega)] at HO
      obtain ⟨X, xc, rfl⟩ := own_slice HO.out
      have RX := Lib.hid (RdV.of_own HO.out)
      clear HO HX
      go_wp2_with fail
      refine (new_any fr bg _).mono ?_
      rintro e w2 ⟨rfl, hb2⟩
      have z2 := hb2.size
      have B2 := Lib.hid (carry HBel.out hb2)
      have RX2 := Lib.hid (RX.out.at_world hb2)
      clear hb2 RX HBel hk hz hgs hlt
      go_wp2_with fail
      go_loopw [17, 18] (fun la i wr => L2 w2 m fr la i wr) (fun _ i _ => m - (intOf i).toNat)
      case atStart => exact ⟨0, 0, bg, Nat.zero_le _, rfl, rfl, Blk.new _ _ _, (Below.refl _ _).alloc (Nat.le_refl _) _⟩
      case round =>
        obtain ⟨k, x, hd, hk, rfl, rfl, hbx, hbel⟩ := hrel
        have hz := hbel.size
        have hgt := hbx.lt
        have HX := Lib.hid hbx
        have HBel := Lib.hid hbel
        have BW := Lib.hid (carry B2.out hbel)
        clear hbx hbel
        obtain ⟨wo, rfl⟩ : ∃ wo : World, wo = wr := ⟨_, rfl⟩
        by_cases hlt : k < m
        · have hl2 : k * 2 + 1 < ls.length := by have := Hm.out; omega
          have RB := HB.out.at_world BW.out
          obtain ⟨bb, bo, rfl, hbb, _⟩ := RB (by omega)
          have c0 := RB.cell_ (k := k * 2) (by omega)
          have c1 := RB.cell_ (k := k * 2 + 1) (by omega)
          have inw := HS.out _ (List.getElem_mem hl2)
          rw [← Nat.add_assoc] at c1
          generalize ls[k * 2] = ix at *
          generalize ls[k * 2 + 1] = nw at *
          have HNW := Lib.hid inw
          clear inw RB hl2
          have i0 : (0 : Int) ≤ (k : Int) := by omega
          have i1 : (k : Int) < (m : Int) := by omega
          by_cases hneg : ix < 0
          · go_wp2_with fail
            refine ⟨⟨k + 1, x, hd, by omega, by go_num, rfl, HX.out, HBel.out⟩, ?_⟩
            simp [intOf]; omega
          by_cases hbig : (n : Int) ≤ ix
          · go_wp2_with fail
            refine ⟨⟨k + 1, x, hd, by omega, by go_num, rfl, HX.out, HBel.out⟩, ?_⟩
            simp [intOf]; omega
          obtain ⟨j, rfl⟩ : ∃ j : Nat, ix = (j : Int) := ⟨ix.toNat, by omega⟩
          have hj : j < n := by omega
          have hj' : j < ts.length := by rw [Hn.out]; exact hj
          obtain ⟨xb, xo, rfl, hxb, hx⟩ := (RX2.out.at_world HBel.out) (by rw [mrows_length]; omega)
          have s0 := hx (j * 14 + 0) _ ((mrows_at fr tp ts 0 j 0 ts[j] (List.getElem?_eq_getElem hj') (by omega)).trans rfl)
          have s1 := hx (j * 14 + 1) _ ((mrows_at fr tp ts 0 j 1 ts[j] (List.getElem?_eq_getElem hj') (by omega)).trans rfl)
          have s2 := hx (j * 14 + 2) _ ((mrows_at fr tp ts 0 j 2 ts[j] (List.getElem?_eq_getElem hj') (by omega)).trans rfl)
          have s3 := hx (j * 14 + 3) _ ((mrows_at fr tp ts 0 j 3 ts[j] (List.getElem?_eq_getElem hj') (by omega)).trans rfl)
          have s4 := hx (j * 14 + 4) _ ((mrows_at fr tp ts 0 j 4 ts[j] (List.getElem?_eq_getElem hj') (by omega)).trans rfl)
          have s5 := hx (j * 14 + 5) _ ((mrows_at fr tp ts 0 j 5 ts[j] (List.getElem?_eq_getElem hj') (by omega)).trans rfl)
          have s6 := hx (j * 14 + 6) _ ((mrows_at fr tp ts 0 j 6 ts[j] (List.getElem?_eq_getElem hj') (by omega)).trans rfl)
          have s7 := hx (j * 14 + 7) _ ((mrows_at fr tp ts 0 j 7 ts[j] (List.getElem?_eq_getElem hj') (by omega)).trans rfl)
          have s8 := hx (j * 14 + 8) _ ((mrows_at fr tp ts 0 j 8 ts[j] (List.getElem?_eq_getElem hj') (by omega)).trans rfl)
          have s9 := hx (j * 14 + 9) _ ((mrows_at fr tp ts 0 j 9 ts[j] (List.getElem?_eq_getElem hj') (by omega)).trans rfl)
          have s10 := hx (j * 14 + 10) _ ((mrows_at fr tp ts 0 j 10 ts[j] (List.getElem?_eq_getElem hj') (by omega)).trans rfl)
          have s11 := hx (j * 14 + 11) _ ((mrows_at fr tp ts 0 j 11 ts[j] (List.getElem?_eq_getElem hj') (by omega)).trans rfl)
          have s12 := hx (j * 14 + 12) _ ((mrows_at fr tp ts 0 j 12 ts[j] (List.getElem?_eq_getElem hj') (by omega)).trans rfl)
          have s13 := hx (j * 14 + 13) _ ((mrows_at fr tp ts 0 j 13 ts[j] (List.getElem?_eq_getElem hj') (by omega)).trans rfl)
          rw [← Nat.add_assoc] at s1 s2 s3 s4 s5 s6 s7 s8 s9 s10 s11 s12 s13
          simp only [Nat.zero_add, Nat.add_zero] at s0 s1 s2 s3 s4 s5 s6 s7 s8 s9 s10 s11 s12 s13
          have HTM := Lib.hid (HT.out _ (List.getElem_mem hj'))
          clear hx
          go_upto_region 20 with fail
          clear s0 s1 s2 s3 s4 s5 s6 s7 s8 s9 s10 s11 s12 s13 c0
          obtain ⟨wq, hq⟩ : ∃ V : World, V = wo.alloc (.cells #[.int .i64 5, .int .i64 fr, .int .i64 tp, .int .i64 ((j : Int) + 1), .int .i64 ts[j], .int .i64 0, .int .i64 0, .slice none 0 0, .slice none 0 0, .int .i64 0, .int .i64 0, .int .i64 0, .int .i64 0, .bool false] 31) := ⟨_, rfl⟩
          rw [← hq]
          have MQ : Hid (Blk wq wo.heap.size 31 (mrow 5 fr tp ((j : Int) + 1) ts[j]).toArray) := by
            show Blk _ _ _ _
            rw [hq]; exact Blk.new _ _ _
          have TQ : Hid (Blk wq w2.heap.size 23 #[.int .i64 fr, .int .i64 0, .int .i64 x, .int .i64 hd]) := by
            show Blk _ _ _ _
            rw [hq]; exact HX.out.alloc _
          have BQ : Hid (Below w2.heap.size w2 wq) := by
            show Below _ _ _
            rw [hq]; exact HBel.out.alloc hz _
          have hcq : wq.cell? ⟨bb, bo + k * 2 + 1, none⟩ = some (.int .i64 nw) := by
            rw [hq, World.cell?_alloc_lt _ _ _ hbb]; exact c1
          have zq : wo.heap.size + 1 = wq.heap.size := by rw [hq]; simp
          have hbq : bb < wq.heap.size := by omega
          clear hq HX HBel BW c1
          obtain ⟨ti, Hti⟩ : ∃ y, Hid (tIn fr x fr ((j : Int) + 1) ts[j] nw = y) := ⟨_, Lib.hid rfl⟩
          obtain ⟨th, Hth⟩ : ∃ y, Hid (tHeard fr x hd fr ((j : Int) + 1) ts[j] nw = y) := ⟨_, Lib.hid rfl⟩
          obtain ⟨te, Hte⟩ : ∃ y, Hid (errI fr x fr ((j : Int) + 1) ts[j] nw = y) := ⟨_, Lib.hid rfl⟩
          have TK : Hid (∀ W : World, Calls Try.prog 15 #[.agg #[.int .i64 fr, .int .i64 0, .int .i64 x, .int .i64 hd], .agg #[.int .i64 5, .int .i64 fr, .int .i64 tp, .int .i64 ((j : Int) + 1), .int .i64 ts[j], .int .i64 0, .int .i64 0, .slice none 0 0, .slice none 0 0, .int .i64 0, .int .i64 0, .int .i64 0, .int .i64 0, .bool false], .int .i64 nw] W fun e w' => e = .returned (.tuple #[.agg #[.int .i64 fr, .int .i64 0, .int .i64 ti, .int .i64 th], .int .i64 te]) ∧ Below W.heap.size W w') := fun W => by
            have := take_any fr 0 x hd 5 fr tp ((j : Int) + 1) ts[j] 0 0 none 0 0 none 0 0 0 0 0 0 false nw W HTM.out HNW.out
            unfold TakePost at this
            rw [Hti.out, Hth.out, Hte.out] at this
            exact this
          go_cut [20, 21] (fun s20 s21 wx => OneNew wq fr ti th te s20 s21 wx)
          case first =>
            refine wp_region_held_drew (S := fun W => Below wq.heap.size wq W) (by kernel_rfl) (Below.refl _ _).drew (fun hHeld => ?_)
            refine wpAnyH_take (i := 2) (oi := ⟨some 113, _, _, _, _, _⟩) (v := ?_) rfl (by kernel_rfl) (by kernel_rfl) (by kernel_rfl) (fun _ _ _ h => h) (Or.inl ⟨by rfl, ?_⟩) hHeld ?_
            rotate_left
            · intro w' hSw
              clear hSw
              go_simp
              try with_reducible rfl
            simp only [Act.put, List.setIfInBounds_toArray, List.set_cons_zero, List.set_cons_succ]
            refine wpAnyH_take (i := 3) (oi := ⟨some 114, _, _, _, _, _⟩) (v := ?_) rfl (by kernel_rfl) (by kernel_rfl) (by kernel_rfl) (fun _ _ _ h => h) (Or.inl ⟨by rfl, ?_⟩) hHeld ?_
            rotate_left
            · intro w' hSw
              clear hSw
              go_simp
              try with_reducible rfl
            simp only [Act.put, List.setIfInBounds_toArray, List.set_cons_zero, List.set_cons_succ]
            refine wpAnyH_take (i := 4) (oi := ⟨some 115, _, _, _, _, _⟩) (v := ?_) rfl (by kernel_rfl) (by kernel_rfl) (by kernel_rfl) (fun _ _ _ h => h) (Or.inl ⟨by rfl, ?_⟩) hHeld ?_
            rotate_left
            · intro w' hSw
              clear hSw
              go_simp
              try with_reducible rfl
            simp only [Act.put, List.setIfInBounds_toArray, List.set_cons_zero, List.set_cons_succ]
            refine wpAnyH_take (i := 5) (oi := ⟨some 116, _, _, _, _, _⟩) (v := ?_) rfl (by kernel_rfl) (by kernel_rfl) (by kernel_rfl) (fun _ _ _ h => h) (Or.inl ⟨by rfl, ?_⟩) hHeld ?_
            rotate_left
            · intro w' hSw
              clear hSw
              go_simp
              try with_reducible rfl
            simp only [Act.put, List.setIfInBounds_toArray, List.set_cons_zero, List.set_cons_succ]
            refine wpAnyH_take (i := 0) (oi := ⟨some 111, _, _, _, _, _⟩) (v := ?_) rfl (by kernel_rfl) (by kernel_rfl) (by kernel_rfl) (fun _ _ _ h => h) (Or.inl ⟨by rfl, ?_⟩) hHeld ?_
            rotate_left
            · intro w' hSw
              obtain ⟨c0, c1, c2, c3⟩ := (TQ.out.call hSw).four
              clear hSw
              go_simp
              try with_reducible rfl
            simp only [Act.put, List.setIfInBounds_toArray, List.set_cons_zero, List.set_cons_succ]
            refine wpAnyH_take (i := 1) (oi := ⟨some 112, _, _, _, _, _⟩) (v := ?_) rfl (by kernel_rfl) (by kernel_rfl) (by kernel_rfl) (fun _ _ _ h => h) (Or.inl ⟨by rfl, ?_⟩) hHeld ?_
            rotate_left
            · intro w' hSw
              obtain ⟨⟨m0, m1, m2, m3, m4, m5, m6⟩, m7, m8, m9, m10, m11, m12, m13⟩ := Blk.cells14 (MQ.out.call hSw)
              clear hSw
              go_simp
              try with_reducible rfl
            simp only [Act.put, List.setIfInBounds_toArray, List.set_cons_zero, List.set_cons_succ]
            refine wpAnyH_take (i := 6) (oi := ⟨some 117, _, _, _, _, _⟩) (v := ?_) rfl (by kernel_rfl) (by kernel_rfl) (by kernel_rfl) (fun _ _ _ h => h) (Or.inl ⟨by rfl, ?_⟩) hHeld ?_
            rotate_left
            · intro w' hSw
              have hc' := (Below.cell hSw (p := ⟨bb, bo + k * 2 + 1, none⟩) hbq).trans hcq
              clear hSw
              go_simp
              try with_reducible rfl
            simp only [Act.put, List.setIfInBounds_toArray, List.set_cons_zero, List.set_cons_succ]
            refine to_letter (fun V => Below wq.heap.size wq V) hHeld ?_
            clear hHeld
            intro V0 hHeld
            refine wpAnyH_ready (rs := [7, 11]) (by kernel_rfl) (by simp) ?_
            refine AllReadyH.cons (o := ⟨some 118, _, _, _, _, _⟩) rfl (fun K hK => ?_) ?_
            · have HH := Lib.hid hHeld
              clear hHeld
              go_simp
              refine (TK.out _).mono ?_
              rintro e w4 ⟨rfl, hb4⟩
              go_wp2_with fail
              refine hK.out _ _ (carry HH.out hb4) (fun _ => ?_)
              clear hK K
              try simp only [Act.put, List.setIfInBounds_toArray, List.set_cons_zero, List.set_cons_succ]
              refine to_letter (fun V => Below wq.heap.size wq V) (carry HH.out hb4) ?_
              clear HH hb4
              intro V1 hHeld
              refine wpAnyH_take (i := 8) (oi := ⟨some 110, _, _, _, _, _⟩) (v := ?_) rfl (by kernel_rfl) (by kernel_rfl) (by kernel_rfl) (fun _ _ _ h => h) (Or.inl ⟨by rfl, ?_⟩) hHeld ?_
              rotate_left
              · intro w' hSw
                clear hSw
                go_simp
                try with_reducible rfl
              simp only [Act.put, List.setIfInBounds_toArray, List.set_cons_zero, List.set_cons_succ]
              refine wpAnyH_take (i := 9) (oi := ⟨some 119, _, _, _, _, _⟩) (v := ?_) rfl (by kernel_rfl) (by kernel_rfl) (by kernel_rfl) (fun _ _ _ h => h) (Or.inl ⟨by rfl, ?_⟩) hHeld ?_
              rotate_left
              · intro w' hSw
                clear hSw
                go_simp
                try with_reducible rfl
              simp only [Act.put, List.setIfInBounds_toArray, List.set_cons_zero, List.set_cons_succ]
              refine wpAnyH_take (i := 10) (oi := ⟨some 120, _, _, _, _, _⟩) (v := ?_) rfl (by kernel_rfl) (by kernel_rfl) (by kernel_rfl) (fun _ _ _ h => h) (Or.inl ⟨by rfl, ?_⟩) hHeld ?_
              rotate_left
              · intro w' hSw
                clear hSw
                go_simp
                try with_reducible rfl
              simp only [Act.put, List.setIfInBounds_toArray, List.set_cons_zero, List.set_cons_succ]
              refine wpAnyH_ready (rs := [11]) (by kernel_rfl) (by simp) ?_
              refine AllReadyH.cons (o := ⟨some 20, _, _, _, _, _⟩) rfl (fun K hK => ?_) AllReadyH.nil
              have HH := Lib.hid hHeld
              clear hHeld
              go_simp
              have y1 := HH.out.size
              refine hK.out _ _ (HH.out.alloc HH.out.size _) (fun _ => ?_)
              clear hK K
              try simp only [Act.put, List.setIfInBounds_toArray, List.set_cons_zero, List.set_cons_succ]
              refine to_letter (fun V => Below wq.heap.size wq V ∧ Blk V V1.heap.size 23 #[.int .i64 0, .int .i64 0, .int .i64 0, .int .i64 0]) ⟨HH.out.alloc HH.out.size _, Blk.new _ _ _⟩ ?_
              clear HH
              rintro V2 ⟨hHeld, N1⟩
              refine wpAnyH_ready (rs := [12]) (by kernel_rfl) (by simp) ?_
              refine AllReadyH.cons (o := ⟨none, _, _, _, _, _⟩) rfl (fun K hK => ?_) AllReadyH.nil
              obtain ⟨c0, c1, c2, c3⟩ := N1.four
              obtain ⟨f0, f1, f2, f3⟩ := N1.free4
              have HH := Lib.hid hHeld
              clear hHeld
              go_simp
              refine hK.out _ _ (below_set4 HH.out V1.heap.size y1 _ _ _ _) (fun _ => ?_)
              clear hK K c0 c1 c2 c3 f0 f1 f2 f3
              try simp only [Act.put, List.setIfInBounds_toArray, List.set_cons_zero, List.set_cons_succ]
              refine to_letter (fun V => Below wq.heap.size wq V ∧ Blk V V1.heap.size 23 #[.int .i64 fr, .int .i64 0, .int .i64 ti, .int .i64 th]) ⟨below_set4 HH.out V1.heap.size y1 _ _ _ _, N1.set4 _ _ _ _⟩ ?_
              clear N1 HH
              rintro U ⟨hHeld, N1⟩
              refine wpAnyH_take (i := 13) (oi := ⟨some 21, _, _, _, _, _⟩) (v := ?_) rfl (by kernel_rfl) (by kernel_rfl) (by kernel_rfl) (fun _ _ _ h => h) (Or.inl ⟨by rfl, ?_⟩) hHeld ?_
              rotate_left
              · intro w' hSw
                clear hSw
                go_simp
                try with_reducible rfl
              simp only [Act.put, List.setIfInBounds_toArray, List.set_cons_zero, List.set_cons_succ]
              refine wpAnyH_done (by kernel_rfl) ?_ _
              have TN : Hid (OneNew wq fr ti th te (.pointer (some ⟨V1.heap.size, 0, none⟩)) (.int .i64 te) U) := ⟨_, rfl, rfl, y1, N1, hHeld⟩
              clear N1 hHeld
              go_wp2_with fail
              go_meet
              exact TN.out
            refine AllReadyH.cons (o := ⟨some 20, _, _, _, _, _⟩) rfl (fun K hK => ?_) ?_
            · have HH := Lib.hid hHeld
              clear hHeld
              go_simp
              have y1 := HH.out.size
              refine hK.out _ _ (HH.out.alloc HH.out.size _) (fun _ => ?_)
              clear hK K
              try simp only [Act.put, List.setIfInBounds_toArray, List.set_cons_zero, List.set_cons_succ]
              refine to_letter (fun V => Below wq.heap.size wq V ∧ Blk V V0.heap.size 23 #[.int .i64 0, .int .i64 0, .int .i64 0, .int .i64 0]) ⟨HH.out.alloc HH.out.size _, Blk.new _ _ _⟩ ?_
              clear HH
              rintro V1 ⟨hHeld, N1⟩
              refine wpAnyH_ready (rs := [7]) (by kernel_rfl) (by simp) ?_
              refine AllReadyH.cons (o := ⟨some 118, _, _, _, _, _⟩) rfl (fun K hK => ?_) AllReadyH.nil
              have HH := Lib.hid hHeld
              clear hHeld
              go_simp
              refine (TK.out _).mono ?_
              rintro e w4 ⟨rfl, hb4⟩
              go_wp2_with fail
              refine hK.out _ _ (carry HH.out hb4) (fun _ => ?_)
              clear hK K
              try simp only [Act.put, List.setIfInBounds_toArray, List.set_cons_zero, List.set_cons_succ]
              refine to_letter (fun V => Below wq.heap.size wq V ∧ Blk V V0.heap.size 23 #[.int .i64 0, .int .i64 0, .int .i64 0, .int .i64 0]) ⟨carry HH.out hb4, N1.call hb4⟩ ?_
              clear HH hb4 N1
              rintro V2 ⟨hHeld, N1⟩
              refine wpAnyH_take (i := 8) (oi := ⟨some 110, _, _, _, _, _⟩) (v := ?_) rfl (by kernel_rfl) (by kernel_rfl) (by kernel_rfl) (fun _ _ _ h => h) (Or.inl ⟨by rfl, ?_⟩) hHeld ?_
              rotate_left
              · intro w' hSw
                clear hSw
                go_simp
                try with_reducible rfl
              simp only [Act.put, List.setIfInBounds_toArray, List.set_cons_zero, List.set_cons_succ]
              refine wpAnyH_take (i := 9) (oi := ⟨some 119, _, _, _, _, _⟩) (v := ?_) rfl (by kernel_rfl) (by kernel_rfl) (by kernel_rfl) (fun _ _ _ h => h) (Or.inl ⟨by rfl, ?_⟩) hHeld ?_
              rotate_left
              · intro w' hSw
                clear hSw
                go_simp
                try with_reducible rfl
              simp only [Act.put, List.setIfInBounds_toArray, List.set_cons_zero, List.set_cons_succ]
              refine wpAnyH_take (i := 10) (oi := ⟨some 120, _, _, _, _, _⟩) (v := ?_) rfl (by kernel_rfl) (by kernel_rfl) (by kernel_rfl) (fun _ _ _ h => h) (Or.inl ⟨by rfl, ?_⟩) hHeld ?_
              rotate_left
              · intro w' hSw
                clear hSw
                go_simp
                try with_reducible rfl
              simp only [Act.put, List.setIfInBounds_toArray, List.set_cons_zero, List.set_cons_succ]
              refine wpAnyH_ready (rs := [12]) (by kernel_rfl) (by simp) ?_
              refine AllReadyH.cons (o := ⟨none, _, _, _, _, _⟩) rfl (fun K hK => ?_) AllReadyH.nil
              obtain ⟨c0, c1, c2, c3⟩ := N1.four
              obtain ⟨f0, f1, f2, f3⟩ := N1.free4
              have HH := Lib.hid hHeld
              clear hHeld
              go_simp
              refine hK.out _ _ (below_set4 HH.out V0.heap.size y1 _ _ _ _) (fun _ => ?_)
              clear hK K c0 c1 c2 c3 f0 f1 f2 f3
              try simp only [Act.put, List.setIfInBounds_toArray, List.set_cons_zero, List.set_cons_succ]
              refine to_letter (fun V => Below wq.heap.size wq V ∧ Blk V V0.heap.size 23 #[.int .i64 fr, .int .i64 0, .int .i64 ti, .int .i64 th]) ⟨below_set4 HH.out V0.heap.size y1 _ _ _ _, N1.set4 _ _ _ _⟩ ?_
              clear N1 HH
              rintro U ⟨hHeld, N1⟩
              refine wpAnyH_take (i := 13) (oi := ⟨some 21, _, _, _, _, _⟩) (v := ?_) rfl (by kernel_rfl) (by kernel_rfl) (by kernel_rfl) (fun _ _ _ h => h) (Or.inl ⟨by rfl, ?_⟩) hHeld ?_
              rotate_left
              · intro w' hSw
                clear hSw
                go_simp
                try with_reducible rfl
              simp only [Act.put, List.setIfInBounds_toArray, List.set_cons_zero, List.set_cons_succ]
              refine wpAnyH_done (by kernel_rfl) ?_ _
              have TN : Hid (OneNew wq fr ti th te (.pointer (some ⟨V0.heap.size, 0, none⟩)) (.int .i64 te) U) := ⟨_, rfl, rfl, y1, N1, hHeld⟩
              clear N1 hHeld
              go_wp2_with fail
              go_meet
              exact TN.out
            exact AllReadyH.nil
          case rest =>
            obtain ⟨g, rfl, rfl, y1, N1, hb⟩ := hcut
            have zc := hb.size
            have TC := Lib.hid (TQ.out.call hb)
            have MC := Lib.hid (MQ.out.call hb)
            have BC := Lib.hid (carry BQ.out hb)
            have hcc := (Below.cell hb (p := ⟨bb, bo + k * 2 + 1, none⟩) hbq).trans hcq
            clear hb TK TQ MQ BQ hcq
            obtain ⟨d0, d1, d2, d3⟩ := TC.out.four
            obtain ⟨c0, c1, c2, c3⟩ := N1.four
            by_cases hr : recB ts[j] nw 4 = true
            · by_cases hs : (j : Int) + 1 ≤ x
              · obtain ⟨e1, e2, e3⟩ := take_order fr x hd fr ((j : Int) + 1) ts[j] nw rfl hr hs
                obtain rfl : te = 7 := Hte.out.symm.trans e1
                obtain rfl : ti = x := Hti.out.symm.trans e2
                obtain rfl : th = hd := Hth.out.symm.trans e3
                clear Hti Hth Hte e1 e2 e3 hr
                have hq := fun W => neq_ses W fr 0 ti th
                go_wp2_with fail
                refine ⟨⟨k + 1, ti, th, by omega, by go_num, rfl, TC.out, BC.out⟩, ?_⟩
                simp [intOf]; omega
              · obtain ⟨e1, e2, e3⟩ := take_ok fr x hd fr ((j : Int) + 1) ts[j] nw rfl hr hs
                obtain rfl : te = 0 := Hte.out.symm.trans e1
                obtain rfl : ti = (j : Int) + 1 := Hti.out.symm.trans e2
                obtain rfl : th = nw := Hth.out.symm.trans e3
                clear Hti Hth Hte e1 e2 e3
                obtain ⟨f0, f1, f2, f3⟩ := TC.out.free4
                obtain ⟨⟨m0, m1, m2, m3, m4, m5, m6⟩, m7, m8, m9, m10, m11, m12, m13⟩ := Blk.cells14 MC.out
                have hle : ts[j] ≤ th := rec_le hr
                have HU := Lib.hid (u64_four ts[j] th HTM.out HNW.out hr)
                clear hr m5 m6 m7 m8 m9 m10 m11 m12 m13 m0 m1 m2
                have n1 : w2.heap.size ≠ g := by omega
                have n2 : w2.heap.size ≠ wo.heap.size := by omega
                go_upto_region 24 with fail
                go_cut [22] (fun s22 wx => s22 = .bool true ∧ ∃ q, wx = wc.drewN q)
                case first =>
                  go_quiet (fail)
                  go_wp2_with fail
                  go_meet
                  exact ⟨by rw [HU.out], nq, rfl⟩
                case rest =>
                  obtain ⟨rfl, q, rfl⟩ := hcut
                  go_wp2_with fail
                  go_quiet (fail)
                  go_wp2_with fail
                  refine ⟨⟨k + 1, (j : Int) + 1, th, by omega, by go_num, rfl, Blk.set4 (w := wc.drewN _) TC.out _ _ _ _, below_set4 (w := wc.drewN _) (below_drewN BC.out _) w2.heap.size (Nat.le_refl _) _ _ _ _⟩, ?_⟩
                  simp [intOf]; omega
            · obtain ⟨e1, e2, e3⟩ := take_time fr x hd fr ((j : Int) + 1) ts[j] nw rfl (by simpa using hr)
              obtain rfl : te = 15 := Hte.out.symm.trans e1
              obtain rfl : ti = x := Hti.out.symm.trans e2
              obtain rfl : th = hd := Hth.out.symm.trans e3
              clear Hti Hth Hte e1 e2 e3 hr
              have hq := fun W => neq_ses W fr 0 ti th
              go_wp2_with fail
              refine ⟨⟨k + 1, ti, th, by omega, by go_num, rfl, TC.out, BC.out⟩, ?_⟩
              simp [intOf]; omega
        · go_wp2_with fail
          refine (alive_any _).mono ?_
          rintro e w9 ⟨rfl, hb9⟩
          go_wp2_with fail
          go_ret
          exact ⟨rfl, carry BW.out hb9⟩
end Go.Proofs.Ytmicbpeohfmepaa
