/- The walk of IntegrityOrder. -/
import Derived.Test.YtilipdcdnckagaaRearWalk
import Derived.Deep.DeepCutAuto
import Derived.RegionTactic
import Derived.BigRegion
namespace Go.Proofs.Ytilipdcdnckagaa
open Go.RowKit

def Blk (w : World) (g : Nat) (t : TypeId) (cs : Array Value) : Prop := w.heap[g]? = some (.cells cs t (0, 0))
def trainCs (id : Int) (nm : ByteArray) (l sp ac se em de co ra : Int) : Array Value := #[.int .i64 id, .string nm, .int .i64 l, .int .i64 sp, .int .i64 ac, .int .i64 se, .int .i64 em, .int .i64 de, .int .i64 co, .int .i64 ra]
def reportCs (mi rs mo acc : Int) (wh : Bool) : Array Value := #[.int .i64 mi, .int .i64 rs, .int .i64 mo, .int .i64 acc, .bool wh]

theorem heap_alloc2_0 (w : World) (A B : Obj) : ((w.alloc A).alloc B).heap[w.heap.size]? = some A := by
  rw [Below.heap_alloc _ _ _ (by simp)]; exact heap_alloc_new w A
theorem heap_alloc2_1 (w : World) (A B : Obj) : ((w.alloc A).alloc B).heap[w.heap.size + 1]? = some B := by
  have e : (w.alloc A).heap.size = w.heap.size + 1 := by simp
  rw [← e]; exact heap_alloc_new _ B
theorem three0 (w : World) (A B C : Obj) : (((w.alloc A).alloc B).alloc C).heap[w.heap.size]? = some A := by
  rw [Below.heap_alloc _ _ _ (by simp; omega), Below.heap_alloc _ _ _ (by simp)]; exact heap_alloc_new w A
theorem three1 (w : World) (A B C : Obj) : (((w.alloc A).alloc B).alloc C).heap[w.heap.size + 1]? = some B := by
  have e : (w.alloc A).heap.size = w.heap.size + 1 := by simp
  rw [Below.heap_alloc _ _ _ (by simp), ← e]; exact heap_alloc_new _ B
theorem three2 (w : World) (A B C : Obj) : (((w.alloc A).alloc B).alloc C).heap[w.heap.size + 1 + 1]? = some C := by
  have e : ((w.alloc A).alloc B).heap.size = w.heap.size + 1 + 1 := by simp
  rw [← e]; exact heap_alloc_new _ C
theorem three_below (w : World) (A B C : Obj) : Below w.heap.size w (((w.alloc A).alloc B).alloc C).drew :=
  ((((Below.refl _ _).alloc (Nat.le_refl _) _).alloc (by simp) _).alloc (by simp; omega) _).drew
theorem Blk.cell {w : World} {g : Nat} {t : TypeId} {cs : Array Value} (h : Blk w g t cs) (i : Nat) : w.cell? ⟨g, i, none⟩ = cs[i]? := cell_of_row w g i cs t (0, 0) h
theorem Blk.frozen {w : World} {g : Nat} {t : TypeId} {cs : Array Value} (h : Blk w g t cs) (i : Nat) : w.frozen? ⟨g, i, none⟩ = false := by
  unfold Blk at h
  simp [World.frozen?, h]

theorem Blk.lt {w : World} {g : Nat} {t : TypeId} {cs : Array Value} (h : Blk w g t cs) : g < w.heap.size := by
  rcases Nat.lt_or_ge g w.heap.size with hlt | hge
  · exact hlt
  · unfold Blk at h; rw [Array.getElem?_eq_none hge] at h; cases h
theorem Blk.set_ {w : World} {g : Nat} {t : TypeId} {cs : Array Value} (h : Blk w g t cs) (i : Nat) (u : Value) : Blk (w.setCell ⟨g, i, none⟩ u) g t (cs.setIfInBounds i u) := by
  unfold Blk at h ⊢
  simp [World.setCell, Array.getElem?_modify, h]
theorem Blk.far {w : World} {g : Nat} {t : TypeId} {cs : Array Value} (h : Blk w g t cs) {p : Addr} (hp : g ≠ p.block) (u : Value) : Blk (w.setCell p u) g t cs := (Below.heap_setCell w p u g hp).trans h
theorem Blk.below {w w' : World} {g : Nat} {t : TypeId} {cs : Array Value} {B : Nat} (h : Blk w g t cs) (hb : Below B w w') (hg : g < B) : Blk w' g t cs := (hb.block g hg).trans h
theorem Blk.train {w : World} {g : Nat} {id : Int} {nm : ByteArray} {l sp ac se em de co ra : Int} (h : Blk w g 28 (trainCs id nm l sp ac se em de co ra)) : HasTrain w g id nm l sp ac se em de co ra :=
  ⟨h.cell 0, h.cell 1, h.cell 2, h.cell 3, h.cell 4, h.cell 5, h.cell 6, h.cell 7, h.cell 8, h.cell 9⟩
theorem Blk.report {w : World} {g : Nat} {mi rs mo acc : Int} {wh : Bool} (h : Blk w g 30 (reportCs mi rs mo acc wh)) : HasReport w g mi rs mo acc wh :=
  ⟨h.cell 0, h.cell 1, h.cell 2, h.cell 3, h.cell 4⟩

theorem beyond_further (wh : Bool) (l mi fu a : Int) (_hl : 1 ≤ l ∧ l ≤ 50000) (hf : mi ≤ fu) (h : beyondB wh l mi a = true) : beyondB wh l fu a = true := by
  unfold beyondB rearI at h ⊢
  simp only [Bool.and_eq_true, decide_eq_true_eq] at h ⊢
  obtain ⟨h1, h2⟩ := h
  refine ⟨h1, ?_⟩
  split at h2 <;> split <;> omega
theorem beyond_none (l mi a : Int) : beyondB false l mi a = false := rfl
theorem beyond_longer (wh : Bool) (l lo mi a : Int) (_hl : 1 ≤ l ∧ l ≤ 50000) (hf : l ≤ lo) (h : beyondB wh l mi a = false) : beyondB wh lo mi a = false := by
  cases wh
  · rfl
  · unfold beyondB rearI at h ⊢
    simp only [Bool.true_and, decide_eq_false_iff_not] at h ⊢
    split at h <;> split <;> omega

set_option maxHeartbeats 8000000 in
theorem order_walk (id : Int) (nm : ByteArray) (l sp ac se em de co ra mi rs mo acc : Int) (wh : Bool) (fu lo a_ : Int) (w : World) (hnm : nm.size ≤ maxLen) (hm : InI mi) (hfu : InI fu) :
    Calls Try.prog 6 #[.agg #[.int .i64 id, .string nm, .int .i64 l, .int .i64 sp, .int .i64 ac, .int .i64 se, .int .i64 em, .int .i64 de, .int .i64 co, .int .i64 ra], .agg #[.int .i64 mi, .int .i64 rs, .int .i64 mo, .int .i64 acc, .bool wh], .int .i64 fu, .int .i64 lo, .int .i64 a_] w fun e w' => e = .returned (.bool true) ∧ Below w.heap.size w w' := by
  go_enter Try.func6, Try.ntmps6
  go_wp2_with fail
  refine (check_any id nm l sp ac se em de co ra _ hnm).mono ?_
  rintro e w1 ⟨n, rfl, hn, hb⟩
  have Hn := Lib.hid hn
  clear hn
  have hz := hb.size
  simp at hz
  have y1 : w.heap.size < w1.heap.size := by omega
  have y2 : w.heap.size + 1 < w1.heap.size := by omega
  have hT : HasTrain w1 w.heap.size id nm l sp ac se em de co ra := HasTrain.below (by simp [HasTrain]) hb (by simp; omega)
  have hR : HasReport w1 (w.heap.size + 1) mi rs mo acc wh := HasReport.below (by simp [HasReport]) hb (by simp)
  have T1 : Blk w1 w.heap.size 28 (trainCs id nm l sp ac se em de co ra) := Blk.below (heap_alloc2_0 _ _ _) hb (by simp; omega)
  have R1 : Blk w1 (w.heap.size + 1) 30 (reportCs mi rs mo acc wh) := Blk.below (heap_alloc2_1 _ _ _) hb (by simp)
  have B1 : Below w.heap.size w w1 := (below_alloc2 _ _ _).trans (hb.mono (by simp; omega))
  clear hb
  by_cases n0 : n = 0
  · subst n0
    have hl : 1 ≤ l ∧ l ≤ 50000 := Hn.out rfl
    have HL := Lib.hid hl
    clear Hn hl
    by_cases hfm : fu < mi
    · obtain ⟨r0, -, -, -, -⟩ := hR
      go_wp2_with fail
      refine (alive_any _).mono ?_
      rintro e w2 ⟨rfl, hb2⟩
      go_wp2_with fail
      go_ret
      exact ⟨rfl, B1.trans (hb2.mono (by omega))⟩
    · obtain ⟨t0, t1, t2, t3, t4, t5, t6, t7, t8, t9⟩ := hT
      obtain ⟨r0, r1, r2, r3, r4⟩ := hR
      go_upto_region 3 with fail
      go_cut [11, 12, 13] (fun s11 s12 s13 wx => ∃ g1 g2 g3 : Nat, s11 = .pointer (some ⟨g1, 0, none⟩) ∧ s12 = .pointer (some ⟨g2, 0, none⟩) ∧ s13 = .pointer (some ⟨g3, 0, none⟩) ∧ w1.heap.size ≤ g1 ∧ w1.heap.size ≤ g2 ∧ w1.heap.size ≤ g3 ∧ g1 ≠ g2 ∧ g1 ≠ g3 ∧ g2 ≠ g3 ∧
        Blk wx g1 30 (reportCs mi rs mo acc wh) ∧ Blk wx g2 30 (reportCs mi rs mo acc wh) ∧ Blk wx g3 28 (trainCs id nm l sp ac se em de co ra) ∧ Below w1.heap.size w1 wx)
      case first =>
        clear hnm hm hfu B1 HL hz
        have x1 : w.heap.size < w1.heap.size + 1 := by omega
        have x2 : w.heap.size < w1.heap.size + 1 + 1 := by omega
        clear T1 R1
        go_region
        all_goals
          go_wp2_with fail
          go_meet
          refine ⟨_, _, _, rfl, rfl, rfl, by omega, by omega, by omega, by omega, by omega, by omega, ?_, ?_, ?_, three_below _ _ _ _⟩
          all_goals first | exact three0 _ _ _ _ | exact three1 _ _ _ _ | exact three2 _ _ _ _
      case rest =>
        obtain ⟨g1, g2, g3, rfl, rfl, rfl, z1, z2, z3, n12, n13, n23, b1, b2, b3, hbx⟩ := hcut
        clear t0 t1 t2 t3 t4 t5 t6 t7 t8 t9 r0 r1 r2 r3 r4
        have e1 := b1.cell 0
        have f1 := b1.frozen 0
        have e2 := b2.cell 4
        have f2 := b2.frozen 4
        have e3 := b3.cell 2
        have f3 := b3.frozen 2
        simp [reportCs, trainCs] at e1 e2 e3
        have TX := T1.below hbx y1
        have RX := R1.below hbx y2
        have BX : Below w.heap.size w wc := B1.trans (hbx.mono (by omega))
        have zx := hbx.size
        clear hbx T1 R1 B1
        go_upto_region 4 with fail
        go_cut [11, 12, 13] (fun s11 s12 s13 wy => s11 = .pointer (some ⟨g1, 0, none⟩) ∧ s12 = .pointer (some ⟨g2, 0, none⟩) ∧ s13 = .pointer (some ⟨g3, 0, none⟩) ∧
          Blk wy g1 30 (reportCs fu rs mo acc wh) ∧ Blk wy g2 30 (reportCs mi rs mo acc false) ∧ Blk wy g3 28 (trainCs id nm lo sp ac se em de co ra) ∧ Blk wy w.heap.size 28 (trainCs id nm l sp ac se em de co ra) ∧ Blk wy (w.heap.size + 1) 30 (reportCs mi rs mo acc wh) ∧ Below w.heap.size w wy ∧ w.heap.size ≤ wy.heap.size)
        case first =>
          have m12 : g2 ≠ g1 := fun h => n12 h.symm
          have m13 : g3 ≠ g1 := fun h => n13 h.symm
          have m23 : g3 ≠ g2 := fun h => n23 h.symm
          go_wp2_with fail
          go_meet
          refine ⟨rfl, rfl, rfl, ((b1.set_ 0 _).far n12 _).far n13 _, ((b2.far m12 _).set_ 4 _).far n23 _, ((b3.far m13 _).far m23 _).set_ 2 _, ((TX.far (by simp; omega) _).far (by simp; omega) _).far (by simp; omega) _, ((RX.far (by simp; omega) _).far (by simp; omega) _).far (by simp; omega) _, ((BX.setCell (by simp; omega) _).setCell (by simp; omega) _).setCell (by simp; omega) _, ?_⟩
          simp [World.setCell]; omega
        case rest =>
          clear TX RX BX zx b1 b2 b3 e1 e2 e3 f1 f2 f3
          obtain ⟨rfl, rfl, rfl, G1, G2, G3, T1, R1, B1, zy⟩ := hcut
          obtain ⟨t0, t1, t2, t3, t4, t5, t6, t7, t8, t9⟩ := T1.train
          obtain ⟨r0, r1, r2, r3, r4⟩ := R1.report
          go_wp2_with fail
          clear t0 t1 t2 t3 t4 t5 t6 t7 t8 t9 r0 r1 r2 r3 r4
          refine (beyond_any id nm l sp ac se em de co ra mi rs mo acc wh a_ _ HL.out hm).mono ?_
          rintro e w2 ⟨rfl, hb2⟩
          have z2' := hb2.size
          have T2 := T1.below hb2 T1.lt
          have R2 := R1.below hb2 R1.lt
          have G12 := G1.below hb2 G1.lt
          have G22 := G2.below hb2 G2.lt
          have C2 := G3.below hb2 G3.lt
          have B2 := B1.trans (hb2.mono (by omega))
          clear hb2 T1 R1 G1 G2 G3 B1
          cases sh : beyondB wh l mi a_
          · have S := Lib.hid sh
            clear sh
            obtain ⟨t0, t1, t2, t3, t4, t5, t6, t7, t8, t9⟩ := T2.train
            obtain ⟨r0, r1, r2, r3, r4⟩ := G22.report
            go_wp2_with fail
            clear t0 t1 t2 t3 t4 t5 t6 t7 t8 t9 r0 r1 r2 r3 r4
            refine (beyond_any id nm l sp ac se em de co ra mi rs mo acc false a_ _ HL.out hm).mono ?_
            rintro e w4 ⟨rfl, hb4⟩
            rw [beyond_none]
            have z4 := hb4.size
            have T4 := T2.below hb4 T2.lt
            have R4 := R2.below hb4 R2.lt
            have C4 := C2.below hb4 C2.lt
            have G4 := G22.below hb4 G22.lt
            have B4 := B2.trans (hb4.mono (by omega))
            clear hb4 T2 R2 C2 G12 G22 B2
            by_cases hlo : lo < l
            · obtain ⟨-, -, t2, -⟩ := T4.train
              go_wp2_with fail
              refine (alive_any _).mono ?_
              rintro e w5 ⟨rfl, hb5⟩
              go_wp2_with fail
              go_ret
              exact ⟨rfl, B4.trans (hb5.mono (by omega))⟩
            · obtain ⟨-, -, t2, -⟩ := T4.train
              obtain ⟨q0, q1, q2, q3, q4, q5, q6, q7, q8, q9⟩ := C4.train
              go_wp2_with fail
              clear t2 q0 q1 q2 q3 q4 q5 q6 q7 q8 q9
              refine (check_any id nm lo sp ac se em de co ra _ hnm).mono ?_
              rintro e w5 ⟨n2, rfl, hn2, hb5⟩
              have Hn2 := Lib.hid hn2
              clear hn2
              have z5 := hb5.size
              have T5 := T4.below hb5 T4.lt
              have R5 := R4.below hb5 R4.lt
              have C5 := C4.below hb5 C4.lt
              have B5 := B4.trans (hb5.mono (by omega))
              clear hb5 T4 R4 C4 G4 B4
              by_cases m0 : n2 = 0
              · subst m0
                have hl2 : 1 ≤ lo ∧ lo ≤ 50000 := Hn2.out rfl
                have HL2 := Lib.hid hl2
                clear Hn2 hl2
                obtain ⟨q0, q1, q2, q3, q4, q5, q6, q7, q8, q9⟩ := C5.train
                obtain ⟨r0, r1, r2, r3, r4⟩ := R5.report
                go_wp2_with fail
                clear q0 q1 q2 q3 q4 q5 q6 q7 q8 q9 r0 r1 r2 r3 r4
                refine (beyond_any id nm lo sp ac se em de co ra mi rs mo acc wh a_ _ HL2.out hm).mono ?_
                rintro e w6 ⟨rfl, hb6⟩
                rw [beyond_longer wh l lo mi a_ HL.out (by omega) S.out]
                have z6 := hb6.size
                have B6 := B5.trans (hb6.mono (by omega))
                clear hb6
                go_wp2_with fail
                refine (alive_any _).mono ?_
                rintro e w7 ⟨rfl, hb7⟩
                go_wp2_with fail
                go_ret
                exact ⟨rfl, B6.trans (hb7.mono (by omega))⟩
              · clear Hn2
                have nb : (n2 != 0) = true := by simpa using m0
                go_wp2_with fail
                refine (alive_any _).mono ?_
                rintro e w6 ⟨rfl, hb6⟩
                go_wp2_with fail
                go_ret
                exact ⟨rfl, B5.trans (hb6.mono (by omega))⟩
          · have S := Lib.hid sh
            clear sh
            obtain ⟨t0, t1, t2, t3, t4, t5, t6, t7, t8, t9⟩ := T2.train
            obtain ⟨r0, r1, r2, r3, r4⟩ := G12.report
            go_wp2_with fail
            clear t0 t1 t2 t3 t4 t5 t6 t7 t8 t9 r0 r1 r2 r3 r4
            refine (beyond_any id nm l sp ac se em de co ra fu rs mo acc wh a_ _ HL.out hfu).mono ?_
            rintro e w3 ⟨rfl, hb3⟩
            rw [beyond_further wh l mi fu a_ HL.out (by omega) S.out]
            have z3' := hb3.size
            have T3 := T2.below hb3 T2.lt
            have R3 := R2.below hb3 R2.lt
            have C3 := C2.below hb3 C2.lt
            have G3 := G22.below hb3 G22.lt
            have B3 := B2.trans (hb3.mono (by omega))
            clear hb3 T2 R2 C2 G12 G22 B2
            obtain ⟨t0, t1, t2, t3, t4, t5, t6, t7, t8, t9⟩ := T3.train
            obtain ⟨r0, r1, r2, r3, r4⟩ := G3.report
            go_wp2_with fail
            clear t0 t1 t2 t3 t4 t5 t6 t7 t8 t9 r0 r1 r2 r3 r4
            refine (beyond_any id nm l sp ac se em de co ra mi rs mo acc false a_ _ HL.out hm).mono ?_
            rintro e w4 ⟨rfl, hb4⟩
            rw [beyond_none]
            have z4 := hb4.size
            have T4 := T3.below hb4 T3.lt
            have R4 := R3.below hb4 R3.lt
            have C4 := C3.below hb4 C3.lt
            have G4 := G3.below hb4 G3.lt
            have B4 := B3.trans (hb4.mono (by omega))
            clear hb4 T3 R3 C3 G3 B3
            by_cases hlo : lo < l
            · obtain ⟨-, -, t2, -⟩ := T4.train
              go_wp2_with fail
              refine (alive_any _).mono ?_
              rintro e w5 ⟨rfl, hb5⟩
              go_wp2_with fail
              go_ret
              exact ⟨rfl, B4.trans (hb5.mono (by omega))⟩
            · obtain ⟨-, -, t2, -⟩ := T4.train
              obtain ⟨q0, q1, q2, q3, q4, q5, q6, q7, q8, q9⟩ := C4.train
              go_wp2_with fail
              clear t2 q0 q1 q2 q3 q4 q5 q6 q7 q8 q9
              refine (check_any id nm lo sp ac se em de co ra _ hnm).mono ?_
              rintro e w5 ⟨n2, rfl, hn2, hb5⟩
              have Hn2 := Lib.hid hn2
              clear hn2
              have z5 := hb5.size
              have T5 := T4.below hb5 T4.lt
              have R5 := R4.below hb5 R4.lt
              have C5 := C4.below hb5 C4.lt
              have B5 := B4.trans (hb5.mono (by omega))
              clear hb5 T4 R4 C4 G4 B4
              by_cases m0 : n2 = 0
              · subst m0
                have hl2 : 1 ≤ lo ∧ lo ≤ 50000 := Hn2.out rfl
                have HL2 := Lib.hid hl2
                clear Hn2 hl2
                go_wp2_with fail
                refine (alive_any _).mono ?_
                rintro e w6 ⟨rfl, hb6⟩
                go_wp2_with fail
                go_ret
                exact ⟨rfl, B5.trans (hb6.mono (by omega))⟩
              · clear Hn2
                have nb : (n2 != 0) = true := by simpa using m0
                go_wp2_with fail
                refine (alive_any _).mono ?_
                rintro e w6 ⟨rfl, hb6⟩
                go_wp2_with fail
                go_ret
                exact ⟨rfl, B5.trans (hb6.mono (by omega))⟩
  · clear Hn
    have nb : (n != 0) = true := by simpa using n0
    go_wp2_with fail
    refine (alive_any _).mono ?_
    rintro e w2 ⟨rfl, hb2⟩
    go_wp2_with fail
    go_ret
    exact ⟨rfl, B1.trans (hb2.mono (by omega))⟩
end Go.Proofs.Ytilipdcdnckagaa
