/- Fly of the program and of the reference: contracts. -/
import Derived.Test.YtgpbfaelhfpbfaaRef
namespace Go.Proofs.Ytgpbfaelhfpbfaa
open Go.RowKit

def Blk (w : World) (g : Nat) (t : TypeId) (cs : Array Value) : Prop := w.heap[g]? = some (.cells cs t (0, 0))
section
variable {w w' : World} {g : Nat} {t : TypeId} {cs : Array Value}
theorem Blk.lt (h : Blk w g t cs) : g < w.heap.size := by
  rcases Nat.lt_or_ge g w.heap.size with hlt | hge
  · exact hlt
  · unfold Blk at h; rw [Array.getElem?_eq_none hge] at h; cases h
theorem Blk.cell (h : Blk w g t cs) (i : Nat) : w.cell? ⟨g, i, none⟩ = cs[i]? := cell_of_row w g i cs t (0, 0) h
theorem Blk.frozen (h : Blk w g t cs) (i : Nat) : w.frozen? ⟨g, i, none⟩ = false := by
  unfold Blk at h
  simp [World.frozen?, h]
theorem Blk.new (w : World) (t : TypeId) (cs : Array Value) : Blk (w.alloc (.cells cs t)) w.heap.size t cs := heap_alloc_new w _
theorem Blk.alloc (h : Blk w g t cs) (o : Obj) : Blk (w.alloc o) g t cs := (Below.heap_alloc w o g h.lt).trans h
theorem Blk.set_ (h : Blk w g t cs) (i : Nat) (u : Value) : Blk (w.setCell ⟨g, i, none⟩ u) g t (cs.setIfInBounds i u) := by
  unfold Blk at h ⊢
  simp [World.setCell, Array.getElem?_modify, h]
theorem Blk.far (h : Blk w g t cs) {p : Addr} (hp : g ≠ p.block) (u : Value) : Blk (w.setCell p u) g t cs := (Below.heap_setCell w p u g hp).trans h
theorem Blk.below {B : Nat} (h : Blk w g t cs) (hb : Below B w w') (hg : g < B) : Blk w' g t cs := (hb.block g hg).trans h
theorem Blk.grown {r : Option Nat} (h : Blk w g t cs) (hb : w.grownBy w' r) (hg : some g ≠ r) : Blk w' g t cs := (hb.block g h.lt hg).trans h
end
theorem Two.setCell {w : World} {base : Nat} {v u : Value} {l m : List Pkt} (h : Two w base v u l m) {p : Addr} (hp : ∀ k, v.ownBlock = some k → k ≠ p.block) (hp' : ∀ k, u.ownBlock = some k → k ≠ p.block) (x : Value) : Two (w.setCell p x) base v u l m :=
  ⟨h.1.setCell hp x, h.2.1.setCell hp' x, h.2.2⟩

section
variable (zs : List Int) (l : List Pkt) (k : Nat) (h : k < l.length)
include h
theorem arr_yes (hf : fateI zs k = 0 ∨ fateI zs k = 3) : arrF zs 0 (l.take (k + 1)) = arrF zs 0 (l.take k) ++ [l[k]] := by rw [arrF_snoc zs l k h, if_pos hf]
theorem arr_no (hf : ¬ (fateI zs k = 0 ∨ fateI zs k = 3)) : arrF zs 0 (l.take (k + 1)) = arrF zs 0 (l.take k) := by rw [arrF_snoc zs l k h, if_neg hf, List.append_nil]
theorem rem_yes (hf : 2 ≤ fateI zs k ∧ l[k].a < 4) : remF zs 0 (l.take (k + 1)) = remF zs 0 (l.take k) ++ [l[k].older] := by rw [remF_snoc zs l k h, if_pos hf]
theorem rem_no (hf : ¬ (2 ≤ fateI zs k ∧ l[k].a < 4)) : remF zs 0 (l.take (k + 1)) = remF zs 0 (l.take k) := by rw [remF_snoc zs l k h, if_neg hf, List.append_nil]
end

theorem own_far {w : World} {base : Nat} {v v' : Value} {l : List Pkt} {o o2 : Obj} (h : Own w base v l) (hat : v'.ownBlock = v.ownBlock ∨ v'.ownBlock = some ((w.alloc o).alloc o2).heap.size) : ∀ j, v'.ownBlock = some j → j ≠ w.heap.size := by
  intro j hj
  rcases hat with e | e
  · rw [e] at hj; have := (h.lt j hj).2; omega
  · rw [e] at hj; simp at hj; omega

set_option maxHeartbeats 4000000 in
theorem fly_any (A F : Option Addr) (c c' : Nat) (l : List Pkt) (zs : List Int) (w : World) (hl : l.length ≤ 2000) (hok : ∀ p ∈ l, InI p.a) (hA : Rd w w.heap.size A l) (hF : RdI w w.heap.size F zs) :
    Calls Try.prog 14 #[.slice A l.length c, .slice F zs.length c'] w (Gives2 (arrF zs 0 l) (remF zs 0 l) w) := by
  have HA := Lib.hid hA
  have HF := Lib.hid hF
  have HO := Lib.hid hok
  clear hA hF hok
  go_enter Try.func14, Try.ntmps14
  go_wp2
  go_loopw [6, 7, 13] (fun v u i wr => FlyRel l zs w v u i wr) (fun _ _ i _ => l.length - (intOf i).toNat)
  case atStart => exact ⟨0, Nat.zero_le _, rfl, ⟨Own.nil _ _, Own.nil _ _, .inl rfl⟩, Below.refl _ _⟩
  case round =>
    obtain ⟨k, hk, rfl, hT, hb⟩ := hrel
    have hz := hb.size
    by_cases hlt : k < l.length
    · obtain ⟨b, off, rfl, hbb, c0, c1, c2, c3⟩ := (HA.out.below hb).at_ hlt
      have ha := HO.out _ (List.getElem_mem hlt)
      unfold InI at ha
      have hal := arrF_take_len zs l k
      have hrl := remF_take_len zs l k
      have hF1 : ∀ o, RdI (wr.alloc o) (wr.alloc o).heap.size F zs := fun o => ((HF.out.below hb).keep fun p hp => World.cell?_alloc_lt wr o p (by omega)).more (by simp; omega)
      have HF1 := Lib.hid hF1
      clear hF1
      go_wp2_with fail
      refine (fate_any F c' zs k _ (HF1.out _)).mono ?_
      rintro e w' ⟨rfl, rfl⟩
      have fr := fate_range zs k
      rcases (show fateI zs k = 0 ∨ fateI zs k = 1 ∨ fateI zs k = 2 ∨ fateI zs k = 3 by omega) with hf | hf | hf | hf
      · have Ha := Lib.hid (arr_yes zs l k hlt (.inl hf))
        have Hr := Lib.hid (rem_no zs l k hlt (by omega))
        rw [hf]
        clear hf fr
        go_wp2_with (first | (at_builtin; refine wpList_app _ rfl _ _ rfl w.heap.size _ _ rfl ((hT.1.alloc _).alloc _) _ _ _ [l[k]] rfl rfl (Rd.one_at _ _ _ _ (by simp) (by simp)) (by simp; omega) (by simp; omega) ?_; intro A' n' c' w1 hn' hown' hgrow hat; clear hn'))
        go_roundw
        case rel => exact ⟨k + 1, by omega, by go_num, by rw [Ha.out, Hr.out]; exact ((hT.alloc _).alloc _).first hown' hgrow hat, ((hb.alloc hz _).alloc (by simp; omega) _).grown hgrow (by simp; omega) (fun j hj => (hT.1.lt j hj).1)⟩
        case measure => simp [intOf]; omega
      · have Ha := Lib.hid (arr_no zs l k hlt (by omega))
        have Hr := Lib.hid (rem_no zs l k hlt (by omega))
        rw [hf]
        clear hf fr
        go_wp2
        go_roundw
        case rel => exact ⟨k + 1, by omega, by go_num, by rw [Ha.out, Hr.out]; exact hT.alloc _, hb.alloc hz _⟩
        case measure => simp [intOf]; omega
      · have Ha := Lib.hid (arr_no zs l k hlt (by omega))
        by_cases h4 : l[k].a < 4
        · have Hr := Lib.hid (rem_yes zs l k hlt (by omega))
          rw [hf]
          clear hf fr
          go_wp2_with (first | (at_builtin; refine wpList_app _ rfl _ _ rfl w.heap.size _ _ rfl ((hT.2.1.alloc _).alloc _) _ _ _ [l[k].older] rfl rfl (Rd.one_at _ l[k].older _ _ (by simp) (by simp)) (by simp; omega) (by simp; omega) ?_; intro A' n' c' w1 hn' hown' hgrow hat; clear hn'))
          go_roundw
          case rel => exact ⟨k + 1, by omega, by go_num, by rw [Ha.out, Hr.out]; exact ((hT.alloc _).alloc _).second hown' hgrow hat, ((hb.alloc hz _).alloc (by simp; omega) _).grown hgrow (by simp; omega) (fun j hj => (hT.2.1.lt j hj).1)⟩
          case measure => simp [intOf]; omega
        · have Hr := Lib.hid (rem_no zs l k hlt (by omega))
          rw [hf]
          clear hf fr
          go_wp2
          go_roundw
          case rel => exact ⟨k + 1, by omega, by go_num, by rw [Ha.out, Hr.out]; exact hT.alloc _, hb.alloc hz _⟩
          case measure => simp [intOf]; omega
      · have Ha := Lib.hid (arr_yes zs l k hlt (.inr hf))
        by_cases h4 : l[k].a < 4
        · have Hr := Lib.hid (rem_yes zs l k hlt (by omega))
          rw [hf]
          clear hf fr
          have hu7 : ∀ j, Value.ownBlock u7 = some j → j ≠ wr.heap.size := fun j hj => by have := (hT.2.1.lt j hj).2; omega
          have hu7 := Lib.hid hu7
          go_wp2_with (first
            | (at_builtin; refine wpList_app _ rfl (.tmp 27) (.tmp 29) rfl w.heap.size _ _ rfl ((hT.1.alloc _).alloc _) _ _ _ [l[k]] rfl rfl (Rd.one_at _ _ _ _ (by simp) (by simp)) (by simp; omega) (by simp; omega) ?_; intro A' n' cc w1 hn' hown' hgrow hat; clear hn'; have hT2 : Two w1 w.heap.size (.slice A' n' cc) u7 _ _ := ((hT.alloc _).alloc _).first hown' hgrow hat; have hz1 : wr.heap.size + 2 ≤ w1.heap.size := (by have := hgrow.size; simp at this; omega); have B1 : Blk w1 wr.heap.size 28 #[.int .i64 l[k].f, .int .i64 l[k].t, .int .i64 l[k].a, .string l[k].d] := ((Blk.new _ _ _).alloc _).grown hgrow (fun e => (by have := (hT.1.lt _ e.symm).2; omega)); have e0 : w1.cell? ⟨wr.heap.size, 0, none⟩ = some (.int .i64 l[k].f) := B1.cell 0; have e1 : w1.cell? ⟨wr.heap.size, 1, none⟩ = some (.int .i64 l[k].t) := B1.cell 1; have e2 : w1.cell? ⟨wr.heap.size, 2, none⟩ = some (.int .i64 l[k].a) := B1.cell 2; have e3 : w1.cell? ⟨wr.heap.size, 3, none⟩ = some (.string l[k].d) := B1.cell 3; have f2 := B1.frozen 2; have hbel : Below w.heap.size w w1 := ((hb.alloc hz _).alloc (by simp; omega) _).grown hgrow (by simp; omega) (fun j hj => (hT.1.lt j hj).1); have hv7 := Lib.hid (own_far hT.1 hat); clear hown' hgrow hat B1)
            | (at_builtin; refine wpList_app _ rfl (.tmp 46) (.tmp 48) rfl w.heap.size _ _ rfl ((hT2.2.1.setCell (p := ⟨wr.heap.size, 2, none⟩) hu7.out _).alloc _) _ _ _ [l[k].older] rfl rfl (Rd.one_at _ l[k].older _ _ (by first | rfl | simp [World.setCell]) (by simp)) (by simp; omega) (by simp [World.setCell]; omega) ?_; intro A2 n2 c2' w2 hn2 hown2 hgrow2 hat2; clear hn2))
          go_roundw
          case rel => exact ⟨k + 1, by omega, by go_num, by rw [Ha.out, Hr.out]; exact ((hT2.setCell (p := ⟨wr.heap.size, 2, none⟩) hv7.out hu7.out _).alloc _).second hown2 hgrow2 hat2, ((hbel.setCell (by simp; omega) _).alloc (by simp [World.setCell]; omega) _).grown hgrow2 (by simp [World.setCell]; omega) (fun j hj => (hT2.2.1.lt j hj).1)⟩
          case measure => simp [intOf]; omega
        · have Hr := Lib.hid (rem_no zs l k hlt (by omega))
          rw [hf]
          clear hf fr
          go_wp2_with (first
            | (at_builtin; refine wpList_app _ rfl (.tmp 27) (.tmp 29) rfl w.heap.size _ _ rfl ((hT.1.alloc _).alloc _) _ _ _ [l[k]] rfl rfl (Rd.one_at _ _ _ _ (by simp) (by simp)) (by simp; omega) (by simp; omega) ?_; intro A' n' cc w1 hn' hown' hgrow hat; clear hn'; have hT2 : Two w1 w.heap.size (.slice A' n' cc) u7 _ _ := ((hT.alloc _).alloc _).first hown' hgrow hat; have hz1 : wr.heap.size + 2 ≤ w1.heap.size := (by have := hgrow.size; simp at this; omega); have B1 : Blk w1 wr.heap.size 28 #[.int .i64 l[k].f, .int .i64 l[k].t, .int .i64 l[k].a, .string l[k].d] := ((Blk.new _ _ _).alloc _).grown hgrow (fun e => (by have := (hT.1.lt _ e.symm).2; omega)); have e0 : w1.cell? ⟨wr.heap.size, 0, none⟩ = some (.int .i64 l[k].f) := B1.cell 0; have e1 : w1.cell? ⟨wr.heap.size, 1, none⟩ = some (.int .i64 l[k].t) := B1.cell 1; have e2 : w1.cell? ⟨wr.heap.size, 2, none⟩ = some (.int .i64 l[k].a) := B1.cell 2; have e3 : w1.cell? ⟨wr.heap.size, 3, none⟩ = some (.string l[k].d) := B1.cell 3; have f2 := B1.frozen 2; have hbel : Below w.heap.size w w1 := ((hb.alloc hz _).alloc (by simp; omega) _).grown hgrow (by simp; omega) (fun j hj => (hT.1.lt j hj).1); clear hown' hgrow hat B1))
          go_roundw
          case rel => exact ⟨k + 1, by omega, by go_num, by rw [Ha.out, Hr.out]; exact hT2, hbel⟩
          case measure => simp [intOf]; omega
    · obtain rfl : k = l.length := by omega
      rw [List.take_length] at hT
      go_wp2
      go_ret2
      exact ⟨_, _, rfl, hT.1, hT.2.1, hb⟩
end Go.Proofs.Ytgpbfaelhfpbfaa
