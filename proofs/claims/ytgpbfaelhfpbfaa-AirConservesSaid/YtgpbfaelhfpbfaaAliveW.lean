/- The chapter's examples hold: alive of law39 returns true. -/
import Derived.Test.YtgpbfaelhfpbfaaAlive
namespace Go.Proofs.Ytgpbfaelhfpbfaa
open Go.RowKit

theorem Rd.blk {w : World} {g : Nat} {cs : Array Value} {l : List Pkt} (h : Blk w g 28 cs) (hcs : cs.toList = row l) : Rd w w.heap.size (some ⟨g, 0, none⟩) l := fun _ =>
  ⟨g, 0, rfl, h.lt, fun i p hp => by
    have hx : ∀ j, j < 4 → w.cell? ⟨g, i * 4 + j, none⟩ = p.cs[j]? := fun j hj => by
      rw [h.cell (i * 4 + j), ← Array.getElem?_toList, hcs]; exact row_at l i p hp j hj
    refine ⟨?_, ?_, ?_, ?_⟩
    · simpa [Pkt.cs] using hx 0 (by omega)
    · simpa [Pkt.cs] using hx 1 (by omega)
    · simpa [Pkt.cs] using hx 2 (by omega)
    · simpa [Pkt.cs] using hx 3 (by omega)⟩
theorem Blk.new_at (w : World) (t : TypeId) (cs : Array Value) (g : Nat) (hg : w.heap.size = g) : Blk (w.alloc (.cells cs t)) g t cs := by subst hg; exact Blk.new w t cs
theorem rd60a (W : World) : Rd ((W.alloc (.cells (zRow 60) 28)).alloc (.cells (zRow 9) 28)) ((W.alloc (.cells (zRow 60) 28)).alloc (.cells (zRow 9) 28)).heap.size (some ⟨W.heap.size, 0, none⟩) (List.replicate 60 pZ) := Rd.blk ((Blk.new _ _ _).alloc _) rfl
theorem rd9a (W : World) : Rd ((W.alloc (.cells (zRow 60) 28)).alloc (.cells (zRow 9) 28)) ((W.alloc (.cells (zRow 60) 28)).alloc (.cells (zRow 9) 28)).heap.size (some ⟨W.heap.size + 1, 0, none⟩) (List.replicate 9 pZ) := Rd.blk (Blk.new_at _ _ _ _ (by simp)) rfl
theorem rd9b (W : World) : Rd ((W.alloc (.cells (zRow 9) 28)).alloc (.cells (zRow 60) 28)) ((W.alloc (.cells (zRow 9) 28)).alloc (.cells (zRow 60) 28)).heap.size (some ⟨W.heap.size, 0, none⟩) (List.replicate 9 pZ) := Rd.blk ((Blk.new _ _ _).alloc _) rfl
theorem rd60b (W : World) : Rd ((W.alloc (.cells (zRow 9) 28)).alloc (.cells (zRow 60) 28)) ((W.alloc (.cells (zRow 9) 28)).alloc (.cells (zRow 60) 28)).heap.size (some ⟨W.heap.size + 1, 0, none⟩) (List.replicate 60 pZ) := Rd.blk (Blk.new_at _ _ _ _ (by simp)) rfl
theorem pOk (p : Pkt) (h : p ∈ [pP, pQ, pR, pS, pO, pZ]) : InI p.a ∧ InI p.t := by
  simp at h
  rcases h with rfl | rfl | rfl | rfl | rfl | rfl <;> (unfold InI; decide)

theorem keep_alive {w W w1 : World} {gb : Nat} (hb : Below W.heap.size W w1)
    (h : (W.cell? ⟨w.heap.size, 0, none⟩ = some (.int .i64 1) ∧ W.cell? ⟨w.heap.size, 1, none⟩ = some (.int .i64 0) ∧ W.cell? ⟨w.heap.size, 2, none⟩ = some (.int .i64 0) ∧ W.cell? ⟨w.heap.size, 3, none⟩ = some (.string { data := #[] })) ∧ (W.cell? ⟨w.heap.size + 1 + 1, 0, none⟩ = some (.int .i64 3) ∧ W.cell? ⟨w.heap.size + 1 + 1, 1, none⟩ = some (.int .i64 5) ∧ W.cell? ⟨w.heap.size + 1 + 1, 2, none⟩ = some (.int .i64 0) ∧ W.cell? ⟨w.heap.size + 1 + 1, 3, none⟩ = some (.string { data := #[] })) ∧ (W.cell? ⟨w.heap.size + 1 + 1 + 1, 0, none⟩ = some (.int .i64 4) ∧ W.cell? ⟨w.heap.size + 1 + 1 + 1, 1, none⟩ = some (.int .i64 0) ∧ W.cell? ⟨w.heap.size + 1 + 1 + 1, 2, none⟩ = some (.int .i64 0) ∧ W.cell? ⟨w.heap.size + 1 + 1 + 1, 3, none⟩ = some (.string { data := #[] })) ∧ (W.cell? ⟨gb, 0, none⟩ = some (.int .i64 3) ∧ W.cell? ⟨gb, 1, none⟩ = some (.int .i64 5) ∧ W.cell? ⟨gb, 2, none⟩ = some (.int .i64 1) ∧ W.cell? ⟨gb, 3, none⟩ = some (.string { data := #[] }) ∧ W.cell? ⟨gb, 4, none⟩ = some (.int .i64 4) ∧ W.cell? ⟨gb, 5, none⟩ = some (.int .i64 0) ∧ W.cell? ⟨gb, 6, none⟩ = some (.int .i64 1) ∧ W.cell? ⟨gb, 7, none⟩ = some (.string { data := #[] })) ∧ w.heap.size + 4 ≤ W.heap.size ∧ gb < W.heap.size ∧ Below w.heap.size w W) :
    (w1.cell? ⟨w.heap.size, 0, none⟩ = some (.int .i64 1) ∧ w1.cell? ⟨w.heap.size, 1, none⟩ = some (.int .i64 0) ∧ w1.cell? ⟨w.heap.size, 2, none⟩ = some (.int .i64 0) ∧ w1.cell? ⟨w.heap.size, 3, none⟩ = some (.string { data := #[] })) ∧ (w1.cell? ⟨w.heap.size + 1 + 1, 0, none⟩ = some (.int .i64 3) ∧ w1.cell? ⟨w.heap.size + 1 + 1, 1, none⟩ = some (.int .i64 5) ∧ w1.cell? ⟨w.heap.size + 1 + 1, 2, none⟩ = some (.int .i64 0) ∧ w1.cell? ⟨w.heap.size + 1 + 1, 3, none⟩ = some (.string { data := #[] })) ∧ (w1.cell? ⟨w.heap.size + 1 + 1 + 1, 0, none⟩ = some (.int .i64 4) ∧ w1.cell? ⟨w.heap.size + 1 + 1 + 1, 1, none⟩ = some (.int .i64 0) ∧ w1.cell? ⟨w.heap.size + 1 + 1 + 1, 2, none⟩ = some (.int .i64 0) ∧ w1.cell? ⟨w.heap.size + 1 + 1 + 1, 3, none⟩ = some (.string { data := #[] })) ∧ (w1.cell? ⟨gb, 0, none⟩ = some (.int .i64 3) ∧ w1.cell? ⟨gb, 1, none⟩ = some (.int .i64 5) ∧ w1.cell? ⟨gb, 2, none⟩ = some (.int .i64 1) ∧ w1.cell? ⟨gb, 3, none⟩ = some (.string { data := #[] }) ∧ w1.cell? ⟨gb, 4, none⟩ = some (.int .i64 4) ∧ w1.cell? ⟨gb, 5, none⟩ = some (.int .i64 0) ∧ w1.cell? ⟨gb, 6, none⟩ = some (.int .i64 1) ∧ w1.cell? ⟨gb, 7, none⟩ = some (.string { data := #[] })) ∧ w.heap.size + 4 ≤ w1.heap.size ∧ gb < w1.heap.size ∧ Below w.heap.size w w1 := by
  obtain ⟨⟨p0, p1, p2, p3⟩, ⟨r0, r1, r2, r3⟩, ⟨s0, s1, s2, s3⟩, ⟨u0, u1, u2, u3, u4, u5, u6, u7⟩, hz, hg, hbel⟩ := h
  have k0 : ∀ o, w1.cell? ⟨w.heap.size, o, none⟩ = W.cell? ⟨w.heap.size, o, none⟩ := fun o => hb.cell (p := ⟨w.heap.size, o, none⟩) (by simp; omega)
  have k2 : ∀ o, w1.cell? ⟨w.heap.size + 1 + 1, o, none⟩ = W.cell? ⟨w.heap.size + 1 + 1, o, none⟩ := fun o => hb.cell (p := ⟨w.heap.size + 1 + 1, o, none⟩) (by simp; omega)
  have k3 : ∀ o, w1.cell? ⟨w.heap.size + 1 + 1 + 1, o, none⟩ = W.cell? ⟨w.heap.size + 1 + 1 + 1, o, none⟩ := fun o => hb.cell (p := ⟨w.heap.size + 1 + 1 + 1, o, none⟩) (by simp; omega)
  have kb : ∀ o, w1.cell? ⟨gb, o, none⟩ = W.cell? ⟨gb, o, none⟩ := fun o => hb.cell (p := ⟨gb, o, none⟩) hg
  have hs := hb.size
  exact ⟨⟨(k0 _).trans p0, (k0 _).trans p1, (k0 _).trans p2, (k0 _).trans p3⟩, ⟨(k2 _).trans r0, (k2 _).trans r1, (k2 _).trans r2, (k2 _).trans r3⟩, ⟨(k3 _).trans s0, (k3 _).trans s1, (k3 _).trans s2, (k3 _).trans s3⟩,
    ⟨(kb _).trans u0, (kb _).trans u1, (kb _).trans u2, (kb _).trans u3, (kb _).trans u4, (kb _).trans u5, (kb _).trans u6, (kb _).trans u7⟩, by omega, by omega, hbel.trans (hb.mono (by omega))⟩

theorem same2 (A A' : Option Addr) (c c' : Nat) (w : World) (h : Rd w w.heap.size A [pP, pS]) (h' : Rd w w.heap.size A' [pP, pS]) :
    Calls Try.prog 11 #[.slice A 2 c, .slice A' 2 c'] w fun e w' => e = .returned (.bool true) ∧ Below w.heap.size w w' :=
  (same_any A A' c c' [pP, pS] [pP, pS] w (by decide) h h').mono fun _ _ ⟨he, hb⟩ => ⟨he.trans (ret_bool (eqL_self _)), hb⟩
theorem same1 (A A' : Option Addr) (c c' : Nat) (w : World) (h : Rd w w.heap.size A [pR]) (h' : Rd w w.heap.size A' [pR]) :
    Calls Try.prog 11 #[.slice A 1 c, .slice A' 1 c'] w fun e w' => e = .returned (.bool true) ∧ Below w.heap.size w w' :=
  (same_any A A' c c' [pR] [pR] w (by decide) h h').mono fun _ _ ⟨he, hb⟩ => ⟨he.trans (ret_bool (eqL_self _)), hb⟩
def GivesN (n : Nat) (l : List Pkt) (w : World) (e : Ending) (w' : World) : Prop := ∃ A c, e = .returned (.slice A n c) ∧ Rd w' w'.heap.size A l ∧ Below w.heap.size w w'
theorem for5 (A : Option Addr) (c : Nat) (w : World) (h : Rd w w.heap.size A [pP, pR]) : Calls Try.prog 10 #[.slice A 2 c, .int .i64 5] w (GivesN 1 [pR] w) :=
  (for_any A c [pP, pR] 5 w (by decide) (fun p hp => (pOk p (by simp at hp ⊢; rcases hp with rfl | rfl <;> simp)).2) h).mono fun e w' ⟨v, he, ho, hb⟩ => by
    rw [sel5] at ho
    obtain ⟨A', c', rfl⟩ := ho.slice
    exact ⟨A', c', he, ho.rd, hb⟩
theorem push6 (A B : Option Addr) (c d : Nat) (w : World) (h : Rd w w.heap.size A (List.replicate 60 pZ)) (h' : Rd w w.heap.size B (List.replicate 9 pZ)) :
    Calls Try.prog 13 #[.slice A 60 c, .slice B 9 d] w (GivesN 64 (pushL (List.replicate 60 pZ) (List.replicate 9 pZ)) w) :=
  (push_any A B c d (List.replicate 60 pZ) (List.replicate 9 pZ) w (by decide) (by decide) h h').mono fun e w' ⟨v, he, ho, hb⟩ => by
    obtain ⟨A', c', rfl⟩ := ho.slice
    rw [push64] at he ho
    exact ⟨A', c', he, ho.rd, hb⟩
def Gives22 (n m : Nat) (l k : List Pkt) (w : World) (e : Ending) (w' : World) : Prop := ∃ v u, e = .returned (.tuple #[v, u]) ∧ (∃ A c, v = .slice A n c ∧ Rd w' w'.heap.size A l) ∧ (∃ A c, u = .slice A m c ∧ Rd w' w'.heap.size A k) ∧ Below w.heap.size w w'
def Gives2g (l k : List Pkt) (w : World) (e : Ending) (w' : World) : Prop := ∃ v u, e = .returned (.tuple #[v, u]) ∧ (∃ A c, v = .slice A 2 c ∧ Rd w' w'.heap.size A l) ∧ (∃ g c, u = .slice (some ⟨g, 0, none⟩) 2 c ∧ Rd w' w'.heap.size (some ⟨g, 0, none⟩) k) ∧ Below w.heap.size w w'
theorem fly1 (A F : Option Addr) (c d : Nat) (w : World) (h : Rd w w.heap.size A [pP, pQ, pR, pS]) (h' : RdI w w.heap.size F [0, 1, 2, 3]) :
    Calls Try.prog 14 #[.slice A 4 c, .slice F 4 d] w (Gives2g [pP, pS] [pR.older, pS.older] w) :=
  (fly_any A F c d [pP, pQ, pR, pS] [0, 1, 2, 3] w (by decide) (fun p hp => (pOk p (by simp at hp ⊢; rcases hp with rfl | rfl | rfl | rfl <;> simp)).1) h h').mono fun e w' ⟨v, u, he, ho, ho2, hb⟩ => by
    rw [arr1] at ho
    rw [rem1] at ho2
    obtain ⟨A1, c1, rfl⟩ := ho.slice
    obtain ⟨g, c2, rfl, _⟩ := World.ownsRow.form ho2 (by decide)
    exact ⟨_, _, he, ⟨A1, c1, rfl, ho.rd⟩, ⟨g, c2, rfl, ho2.rd⟩, hb⟩
theorem fly2 (A F : Option Addr) (c d : Nat) (w : World) (h : Rd w w.heap.size A [pO, pO]) (h' : RdI w w.heap.size F [2, 3]) :
    Calls Try.prog 14 #[.slice A 2 c, .slice F 2 d] w (Gives22 1 0 [pO] [] w) :=
  (fly_any A F c d [pO, pO] [2, 3] w (by decide) (fun p hp => (pOk p (by simp at hp ⊢; rcases hp with rfl | rfl <;> simp)).1) h h').mono fun e w' ⟨v, u, he, ho, ho2, hb⟩ => by
    rw [arr2] at ho
    rw [rem2] at ho2
    obtain ⟨A1, c1, rfl⟩ := ho.slice
    obtain ⟨A2, c2, rfl⟩ := ho2.slice
    exact ⟨_, _, he, ⟨A1, c1, rfl, ho.rd⟩, ⟨A2, c2, rfl, ho2.rd⟩, hb⟩

theorem alloc5 (w : World) (o0 o1 o2 o3 o4 o5 : Obj) : let W := (((((w.alloc o0).alloc o1).alloc o2).alloc o3).alloc o4).alloc o5
    W.heap[w.heap.size]? = some o0 ∧ W.heap[w.heap.size + 1 + 1]? = some o2 ∧ W.heap[w.heap.size + 1 + 1 + 1]? = some o3 ∧ Below w.heap.size w W ∧ W.heap.size = w.heap.size + 6 := by
  intro W
  have e1 : (w.alloc o0).heap.size = w.heap.size + 1 := by simp
  have e2 : ((w.alloc o0).alloc o1).heap.size = w.heap.size + 1 + 1 := by simp
  have e3 : (((w.alloc o0).alloc o1).alloc o2).heap.size = w.heap.size + 1 + 1 + 1 := by simp
  have e4 : ((((w.alloc o0).alloc o1).alloc o2).alloc o3).heap.size = w.heap.size + 1 + 1 + 1 + 1 := by simp
  have e5 : (((((w.alloc o0).alloc o1).alloc o2).alloc o3).alloc o4).heap.size = w.heap.size + 1 + 1 + 1 + 1 + 1 := by simp
  refine ⟨?_, ?_, ?_, ?_, by simp [W]⟩
  · rw [Below.heap_alloc _ _ _ (by omega), Below.heap_alloc _ _ _ (by omega), Below.heap_alloc _ _ _ (by omega), Below.heap_alloc _ _ _ (by omega), Below.heap_alloc _ _ _ (by omega)]; exact heap_alloc_new w o0
  · rw [Below.heap_alloc _ _ _ (by omega), Below.heap_alloc _ _ _ (by omega), Below.heap_alloc _ _ _ (by omega), ← e2]; exact heap_alloc_new _ o2
  · rw [Below.heap_alloc _ _ _ (by omega), Below.heap_alloc _ _ _ (by omega), ← e3]; exact heap_alloc_new _ o3
  · exact ((((((Below.refl _ _).alloc (Nat.le_refl _) _).alloc (by omega) _).alloc (by omega) _).alloc (by omega) _).alloc (by omega) _).alloc (by omega) _

set_option maxHeartbeats 16000000 in
theorem alive_any (w : World) : Calls Try.prog 9 #[] w fun e w' => e = .returned (.bool true) ∧ Below w.heap.size w w' := by
  go_enter Try.func9, Try.ntmps9
  go_wp2_with fail
  refine (fly1 _ _ _ _ _ (((Rd.lit _ [pP, pQ, pR, pS] _ _ _ rfl (by decide) (by simp) (Nat.lt_succ_self _)).alloc (by simp) _).more (by simp)) (RdI.lit _ [0, 1, 2, 3] _ _ _ _ rfl (by simp) (by simp))).mono ?_
  rintro e w1 ⟨v, u, rfl, ⟨A1, c1, rfl, hA1⟩, ⟨gb, c2, rfl, hA2⟩, hb⟩
  obtain ⟨a0, a2, a3, ab, az⟩ := alloc5 w _ _ _ _ _ _
  have P1 := Blk.below (g := w.heap.size) a0 hb (by rw [az]; omega)
  have R1 := Blk.below (g := w.heap.size + 1 + 1) a2 hb (by rw [az]; omega)
  have S1 := Blk.below (g := w.heap.size + 1 + 1 + 1) a3 hb (by rw [az]; omega)
  have B1 : Below w.heap.size w w1 := ab.trans (hb.mono (by rw [az]; omega))
  have z1 : w.heap.size + 6 ≤ w1.heap.size := by have := hb.size; rw [az] at this; exact this
  clear a0 a2 a3 ab az hb
  have HA1 := Lib.hid hA1
  have HA2 := Lib.hid hA2
  clear hA1 hA2
  go_wp2_with fail
  refine (fly2 _ _ _ _ _ (((Rd.lit _ [pO, pO] _ _ _ rfl (by decide) (by simp) (Nat.lt_succ_self _)).alloc (by simp) _).more (by simp)) (RdI.lit _ [2, 3] _ _ _ _ rfl (by simp) (by simp))).mono ?_
  rintro e w2 ⟨v, u, rfl, ⟨A3, c3, rfl, hA3⟩, ⟨A4, c4, rfl, hA4⟩, hb⟩
  have sz2 := hb.size
  have P2 := ((P1.alloc _).alloc _).below hb (by simp; omega)
  have R2 := ((R1.alloc _).alloc _).below hb (by simp; omega)
  have S2 := ((S1.alloc _).alloc _).below hb (by simp; omega)
  have B2 : Below w.heap.size w w2 := ((B1.alloc (by omega) _).alloc (by simp; omega) _).trans (hb.mono (by simp; omega))
  have rA1 : Rd w2 w2.heap.size A1 [pP, pS] := (((((HA1.out.alloc (Nat.le_refl _) _).alloc (by simp) _).more (by simp; omega)).below hb)).more sz2
  have rA2 : Rd w2 w2.heap.size (some ⟨gb, 0, none⟩) [pR.older, pS.older] := (((((HA2.out.alloc (Nat.le_refl _) _).alloc (by simp) _).more (by simp; omega)).below hb)).more sz2
  simp at sz2
  have z2 : w.heap.size + 4 ≤ w2.heap.size := by omega
  clear hb P1 R1 S1 B1 HA1 HA2 hA3 hA4
  have q0 := (rA2.cells_ (k := 0) (by decide))
  have q1 := (rA2.cells_ (k := 1) (by decide))
  have hgb : gb < w2.heap.size := by obtain ⟨b, o, e, h, _⟩ := rA2 (by decide); simp at e; omega
  have HS : (w2.cell? ⟨w.heap.size, 0, none⟩ = some (.int .i64 1) ∧ w2.cell? ⟨w.heap.size, 1, none⟩ = some (.int .i64 0) ∧ w2.cell? ⟨w.heap.size, 2, none⟩ = some (.int .i64 0) ∧ w2.cell? ⟨w.heap.size, 3, none⟩ = some (.string { data := #[] })) ∧ (w2.cell? ⟨w.heap.size + 1 + 1, 0, none⟩ = some (.int .i64 3) ∧ w2.cell? ⟨w.heap.size + 1 + 1, 1, none⟩ = some (.int .i64 5) ∧ w2.cell? ⟨w.heap.size + 1 + 1, 2, none⟩ = some (.int .i64 0) ∧ w2.cell? ⟨w.heap.size + 1 + 1, 3, none⟩ = some (.string { data := #[] })) ∧ (w2.cell? ⟨w.heap.size + 1 + 1 + 1, 0, none⟩ = some (.int .i64 4) ∧ w2.cell? ⟨w.heap.size + 1 + 1 + 1, 1, none⟩ = some (.int .i64 0) ∧ w2.cell? ⟨w.heap.size + 1 + 1 + 1, 2, none⟩ = some (.int .i64 0) ∧ w2.cell? ⟨w.heap.size + 1 + 1 + 1, 3, none⟩ = some (.string { data := #[] })) ∧ (w2.cell? ⟨gb, 0, none⟩ = some (.int .i64 3) ∧ w2.cell? ⟨gb, 1, none⟩ = some (.int .i64 5) ∧ w2.cell? ⟨gb, 2, none⟩ = some (.int .i64 1) ∧ w2.cell? ⟨gb, 3, none⟩ = some (.string { data := #[] }) ∧ w2.cell? ⟨gb, 4, none⟩ = some (.int .i64 4) ∧ w2.cell? ⟨gb, 5, none⟩ = some (.int .i64 0) ∧ w2.cell? ⟨gb, 6, none⟩ = some (.int .i64 1) ∧ w2.cell? ⟨gb, 7, none⟩ = some (.string { data := #[] })) ∧ w.heap.size + 4 ≤ w2.heap.size ∧ gb < w2.heap.size ∧ Below w.heap.size w w2 := ⟨⟨P2.cell 0, P2.cell 1, P2.cell 2, P2.cell 3⟩, ⟨R2.cell 0, R2.cell 1, R2.cell 2, R2.cell 3⟩, ⟨S2.cell 0, S2.cell 1, S2.cell 2, S2.cell 3⟩, ⟨q0.1, q0.2.1, q0.2.2.1, q0.2.2.2, q1.1, q1.2.1, q1.2.2.1, q1.2.2.2⟩, z2, hgb, B2⟩
  have HSS := Lib.hid HS
  have HRA1 := Lib.hid rA1
  clear q0 q1 HS P2 R2 S2 rA1 rA2 z2 hgb B2 sz2 z1
  have h60 := mk60
  have h9 := mk9
  go_wp2_with fail
  go_region_held3 (fun w' => (w'.cell? ⟨w.heap.size, 0, none⟩ = some (.int .i64 1) ∧ w'.cell? ⟨w.heap.size, 1, none⟩ = some (.int .i64 0) ∧ w'.cell? ⟨w.heap.size, 2, none⟩ = some (.int .i64 0) ∧ w'.cell? ⟨w.heap.size, 3, none⟩ = some (.string { data := #[] })) ∧ (w'.cell? ⟨w.heap.size + 1 + 1, 0, none⟩ = some (.int .i64 3) ∧ w'.cell? ⟨w.heap.size + 1 + 1, 1, none⟩ = some (.int .i64 5) ∧ w'.cell? ⟨w.heap.size + 1 + 1, 2, none⟩ = some (.int .i64 0) ∧ w'.cell? ⟨w.heap.size + 1 + 1, 3, none⟩ = some (.string { data := #[] })) ∧ (w'.cell? ⟨w.heap.size + 1 + 1 + 1, 0, none⟩ = some (.int .i64 4) ∧ w'.cell? ⟨w.heap.size + 1 + 1 + 1, 1, none⟩ = some (.int .i64 0) ∧ w'.cell? ⟨w.heap.size + 1 + 1 + 1, 2, none⟩ = some (.int .i64 0) ∧ w'.cell? ⟨w.heap.size + 1 + 1 + 1, 3, none⟩ = some (.string { data := #[] })) ∧ (w'.cell? ⟨gb, 0, none⟩ = some (.int .i64 3) ∧ w'.cell? ⟨gb, 1, none⟩ = some (.int .i64 5) ∧ w'.cell? ⟨gb, 2, none⟩ = some (.int .i64 1) ∧ w'.cell? ⟨gb, 3, none⟩ = some (.string { data := #[] }) ∧ w'.cell? ⟨gb, 4, none⟩ = some (.int .i64 4) ∧ w'.cell? ⟨gb, 5, none⟩ = some (.int .i64 0) ∧ w'.cell? ⟨gb, 6, none⟩ = some (.int .i64 1) ∧ w'.cell? ⟨gb, 7, none⟩ = some (.string { data := #[] })) ∧ w.heap.size + 4 ≤ w'.heap.size ∧ gb < w'.heap.size ∧ Below w.heap.size w w')
    (first | exact keep_alive ((Below.refl _ _).drew) HSS.out | exact keep_alive hb (by assumption) | exact keep_alive ((Below.refl _ _).alloc (Nat.le_refl _) _) (by assumption) | exact keep_alive (((Below.refl _ _).alloc (Nat.le_refl _) _).drew) (by assumption) | exact keep_alive (((Below.refl _ _).alloc (Nat.le_refl _) _).drew) HSS.out)
    (first
      | (go_at_call 11; (with_reducible refine (same2 A1 _ _ _ _ ?_ ?_).mono ?_); (first | exact ((HRA1.out.alloc (Nat.le_refl _) _).more (by simp)).drew); (exact Rd.blk (Blk.new _ _ _) rfl); rintro e w3 ⟨rfl, hb⟩)
      | (go_at_call 10; (with_reducible refine (for5 _ _ _ ?_).mono ?_); (first | exact Rd.blk (Blk.new_at _ _ _ _ (by simp)) rfl | exact Rd.blk ((Blk.new_at _ _ _ _ (by simp)).alloc _) rfl); rintro e w4 ⟨A', c', rfl, hR1, hb⟩)
      | (go_at_call 11; (with_reducible refine (same1 _ _ _ _ _ ?_ ?_).mono ?_); (first | exact hR1 | exact (hR1.alloc (Nat.le_refl _) _).more (by simp)); (first | exact Rd.blk (Blk.new_at _ _ _ _ (by simp)) rfl | exact ((Rd.blk (Blk.new_at _ _ _ _ (by simp)) rfl).below hb).more hb.size | exact ((Rd.blk ((Blk.new_at _ _ _ _ (by simp)).alloc _) rfl).below hb).more hb.size); rintro e w5 ⟨rfl, hb⟩)
      | (go_at_call 13; (with_reducible refine (push6 _ _ _ _ _ ?_ ?_).mono ?_); (first | (with_reducible exact rd60a _) | (with_reducible exact rd60b _)); (first | (with_reducible exact rd9a _) | (with_reducible exact rd9b _)); rintro e w6 ⟨A6, c6, rfl, hR6, hb⟩))
  all_goals
    go_wp2
    go_ret
    rename_i hH
    exact ⟨rfl, hH.2.2.2.2.2.2⟩
end Go.Proofs.Ytgpbfaelhfpbfaa
