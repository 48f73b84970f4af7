/- Fly of the reference: contract. -/
import Derived.Test.YtgpbfaelhfpbfaaFly
namespace Go.Proofs.Ytgpbfaelhfpbfaa
open Go.RowKit

/-- The four cells of a packet at an index, for an address that is known. -/
theorem Rd.cells_ {w : World} {B b off k : Nat} {l : List Pkt} (h : Rd w B (some ⟨b, off, none⟩) l) (hk : k < l.length) :
    w.cell? ⟨b, off + k * 4, none⟩ = some (.int .i64 l[k].f) ∧ w.cell? ⟨b, off + k * 4 + 1, none⟩ = some (.int .i64 l[k].t) ∧ w.cell? ⟨b, off + k * 4 + 2, none⟩ = some (.int .i64 l[k].a) ∧ w.cell? ⟨b, off + k * 4 + 3, none⟩ = some (.string l[k].d) := by
  obtain ⟨b', off', e, _, hc⟩ := h.at_ hk
  simp at e
  obtain ⟨rfl, rfl⟩ := e
  exact hc

set_option maxHeartbeats 4000000 in
theorem flyR_any (A F : Option Addr) (c c' : Nat) (l : List Pkt) (zs : List Int) (w : World) (hl : l.length ≤ 2000) (hok : ∀ p ∈ l, InI p.a) (hA : Rd w w.heap.size A l) (hF : RdI w w.heap.size F zs) :
    Calls Try.prog 15 #[.slice A l.length c, .slice F zs.length c'] w (Gives2 (arrF zs 0 l) (remF zs 0 l) w) := by
  have HA := Lib.hid hA
  have HF := Lib.hid hF
  have HO := Lib.hid hok
  clear hA hF hok
  go_enter Try.func15, Try.ntmps15
  go_wp2
  go_loopw [6, 7, 8] (fun v u i wr => FlyRel l zs w v u i wr) (fun _ _ i _ => l.length - (intOf i).toNat)
  case atStart => exact ⟨0, Nat.zero_le _, rfl, ⟨Own.nil _ _, Own.nil _ _, .inl rfl⟩, Below.refl _ _⟩
  case round =>
    obtain ⟨k, hk, rfl, hT, hb⟩ := hrel
    have hz := hb.size
    by_cases hlt : k < l.length
    · obtain ⟨b, off, rfl, hbb, c0, c1, c2, c3⟩ := (HA.out.below hb).at_ hlt
      have ha := HO.out _ (List.getElem_mem hlt)
      unfold InI at ha
      have hal := arrF_take_len zs l k
      have hrl := remF_take_len zs l k
      go_wp2_with fail
      refine (fateR_any F c' zs k _ ((HF.out.below hb).more hz)).mono ?_
      rintro e w' ⟨rfl, rfl⟩
      have fr := fate_range zs k
      rcases (show fateI zs k = 0 ∨ fateI zs k = 1 ∨ fateI zs k = 2 ∨ fateI zs k = 3 by omega) with hf | hf | hf | hf
      · have Ha := Lib.hid (arr_yes zs l k hlt (.inl hf))
        have Hr := Lib.hid (rem_no zs l k hlt (by omega))
        rw [hf]
        clear hf fr
        go_wp2_with (first | (at_builtin; refine wpList_app _ rfl _ _ rfl w.heap.size _ _ rfl (hT.1.alloc _) _ _ _ [l[k]] rfl rfl (Rd.one_at _ _ _ _ (by simp) (by simp)) (by simp; omega) (by simp; omega) ?_; intro A' n' c' w1 hn' hown' hgrow hat; clear hn'))
        go_roundw
        case rel => exact ⟨k + 1, by omega, by go_num, by rw [Ha.out, Hr.out]; exact (hT.alloc _).first hown' hgrow hat, (hb.alloc hz _).grown hgrow (by simp; omega) (fun j hj => (hT.1.lt j hj).1)⟩
        case measure => simp [intOf]; omega
      · have Ha := Lib.hid (arr_no zs l k hlt (by omega))
        have Hr := Lib.hid (rem_no zs l k hlt (by omega))
        rw [hf]
        clear hf fr
        go_wp2
        go_roundw
        case rel => exact ⟨k + 1, by omega, by go_num, by rw [Ha.out, Hr.out]; exact hT, hb⟩
        case measure => simp [intOf]; omega
      · have Ha := Lib.hid (arr_no zs l k hlt (by omega))
        by_cases h4 : l[k].a < 4
        · have Hr := Lib.hid (rem_yes zs l k hlt (by omega))
          rw [hf]
          clear hf fr
          go_wp2_with (first | (at_builtin; refine wpList_app _ rfl _ _ rfl w.heap.size _ _ rfl ((hT.2.1.alloc _).alloc _) _ _ _ [l[k].older] rfl rfl (Rd.one_at _ l[k].older _ _ (by simp) (by simp)) (by simp; omega) (by simp; omega) ?_; intro A' n' c' w1 hn' hown' hgrow hat; clear hn'))
          go_roundw
          case rel => exact ⟨k + 1, by omega, by go_num, by rw [Ha.out, Hr.out]; exact ((hT.alloc _).alloc _).second hown' hgrow hat, ((hb.alloc hz _).alloc (by simp; omega) _).grown hgrow (by simp; omega) (fun j hj => (hT.2.1.lt j hj).1)⟩
          case measure => simp [intOf]; omega
        · have Hr := Lib.hid (rem_no zs l k hlt (by omega))
          rw [hf]
          clear hf fr
          go_wp2
          go_roundw
          case rel => exact ⟨k + 1, by omega, by go_num, by rw [Ha.out, Hr.out]; exact hT, hb⟩
          case measure => simp [intOf]; omega
      · have Ha := Lib.hid (arr_yes zs l k hlt (.inr hf))
        by_cases h4 : l[k].a < 4
        · have Hr := Lib.hid (rem_yes zs l k hlt (by omega))
          rw [hf]
          clear hf fr
          go_wp2_with (first
            | (at_builtin; refine wpList_app _ rfl (.tmp 26) (.tmp 31) rfl w.heap.size _ _ rfl (hT.1.alloc _) _ _ _ [l[k]] rfl rfl (Rd.one_at _ _ _ _ (by simp) (by simp)) (by simp; omega) (by simp; omega) ?_; intro A' n' cc w1 hn' hown' hgrow hat; clear hn'; have hT2 : Two w1 w.heap.size (.slice A' n' cc) u7 _ _ := (hT.alloc _).first hown' hgrow hat; have hz1 : wr.heap.size + 1 ≤ w1.heap.size := (by have := hgrow.size; simp at this; omega); have hbel : Below w.heap.size w w1 := (hb.alloc hz _).grown hgrow (by simp; omega) (fun j hj => (hT.1.lt j hj).1); obtain ⟨d0, d1, d2, d3⟩ := (HA.out.below hbel).cells_ hlt; clear hown' hgrow hat c0 c1 c2 c3)
            | (at_builtin; refine wpList_app _ rfl (.tmp 51) (.tmp 53) rfl w.heap.size _ _ rfl ((hT2.2.1.alloc _).alloc _) _ _ _ [l[k].older] rfl rfl (Rd.one_at _ l[k].older _ _ (by simp) (by simp)) (by simp; omega) (by simp; omega) ?_; intro A2 n2 c2' w2 hn2 hown2 hgrow2 hat2; clear hn2))
          go_roundw
          case rel => exact ⟨k + 1, by omega, by go_num, by rw [Ha.out, Hr.out]; exact ((hT2.alloc _).alloc _).second hown2 hgrow2 hat2, ((hbel.alloc (by omega) _).alloc (by simp; omega) _).grown hgrow2 (by simp; omega) (fun j hj => (hT2.2.1.lt j hj).1)⟩
          case measure => simp [intOf]; omega
        · have Hr := Lib.hid (rem_no zs l k hlt (by omega))
          rw [hf]
          clear hf fr
          go_wp2_with (first
            | (at_builtin; refine wpList_app _ rfl (.tmp 26) (.tmp 31) rfl w.heap.size _ _ rfl (hT.1.alloc _) _ _ _ [l[k]] rfl rfl (Rd.one_at _ _ _ _ (by simp) (by simp)) (by simp; omega) (by simp; omega) ?_; intro A' n' cc w1 hn' hown' hgrow hat; clear hn'; have hT2 : Two w1 w.heap.size (.slice A' n' cc) u7 _ _ := (hT.alloc _).first hown' hgrow hat; have hz1 : wr.heap.size + 1 ≤ w1.heap.size := (by have := hgrow.size; simp at this; omega); have hbel : Below w.heap.size w w1 := (hb.alloc hz _).grown hgrow (by simp; omega) (fun j hj => (hT.1.lt j hj).1); obtain ⟨d0, d1, d2, d3⟩ := (HA.out.below hbel).cells_ hlt; clear hown' hgrow hat c0 c1 c2 c3))
          go_roundw
          case rel => exact ⟨k + 1, by omega, by go_num, by rw [Ha.out, Hr.out]; exact hT2, hbel⟩
          case measure => simp [intOf]; omega
    · obtain rfl : k = l.length := by omega
      rw [List.take_length] at hT
      go_wp2
      go_ret2
      exact ⟨_, _, rfl, hT.1, hT.2.1, hb⟩
end Go.Proofs.Ytgpbfaelhfpbfaa
