/- Contracts of the functions of chapter 35 (modes) and of its reference, over the given translation. -/
import Derived.Test.YtnjlfoncgkdkcaaDoorChecked
import Derived.Test.YtnjlfoncgkdkcaaDoorPlain
import Derived.WalkLawsBesides
import Derived.WalkSpells
import Derived.Outline
import Derived.Lib.Hide
import Derived.OwnWalk
import Derived.Deep.QuietTactic
import Derived.BigQuiet
import Derived.Maps.AppendAt
namespace Go.Proofs.YtnjlfoncgkdkcaaDoor
open Go.RowKit

def NextPost (m ev : Int) (w : World) (e : Ending) (w' : World) : Prop := e = .returned (.tuple #[.int .i64 (nextF m ev), .bool (nextF m ev != 0)]) ∧ w = w'
set_option maxHeartbeats 1000000 in
theorem next_any (m ev : Int) (w : World) (hT : Tabs w) : Calls Tryd.prog 8 #[.int .i64 m, .int .i64 ev] w (NextPost m ev w) := by
  have HT := Lib.hid hT
  clear hT
  by_cases hm : 1 ≤ m ∧ m ≤ 7
  · obtain ⟨h1, h2⟩ := hm
    by_cases he1 : 1 ≤ ev
    · by_cases he2 : ev ≤ 7
      · obtain ⟨M, rfl⟩ : ∃ M : Nat, m = M := ⟨m.toNat, by omega⟩
        obtain ⟨E, rfl⟩ : ∃ E : Nat, ev = E := ⟨ev.toNat, by omega⟩
        have hc := HT.out.2.1 (M * 8 + E) (by omega)
        rw [← next_at M E (by omega) (by omega)] at hc
        obtain ⟨v, hv⟩ : ∃ v, nextF (M : Int) (E : Int) = v := ⟨_, rfl⟩
        have HV := Lib.hid hv
        rw [hv] at hc
        clear hv
        have i0 : (0 : Int) ≤ (M : Int) := by omega
        have i1 : (M : Int) < 8 := by omega
        have i2 : (0 : Int) ≤ (E : Int) := by omega
        have i3 : (E : Int) < 8 := by omega
        go_enter Tryd.func8, Tryd.ntmps8
        go_wp2
        go_ret2
        exact ⟨by rw [HV.out]; rfl, rfl⟩
      · have H := Lib.hid (next_out m ev (by omega))
        go_enter Tryd.func8, Tryd.ntmps8
        go_wp2
        go_ret2
        exact ⟨by rw [H.out]; rfl, rfl⟩
    · have H := Lib.hid (next_out m ev (by omega))
      go_enter Tryd.func8, Tryd.ntmps8
      go_wp2
      go_ret2
      exact ⟨by rw [H.out]; rfl, rfl⟩
  · have H := Lib.hid (next_out m ev (by omega))
    rcases (show m < 1 ∨ (1 ≤ m ∧ 7 < m) by omega) with h1 | ⟨h1, h2⟩
    · clear hm
      go_enter Tryd.func8, Tryd.ntmps8
      go_wp2
      go_ret2
      exact ⟨by rw [H.out]; rfl, rfl⟩
    · clear hm
      go_enter Tryd.func8, Tryd.ntmps8
      go_wp2
      go_ret2
      exact ⟨by rw [H.out]; rfl, rfl⟩

theorem limit_any (m : Int) (w : World) (hT : Tabs w) : Calls Tryd.prog 14 #[.int .i64 m] w fun e w' => e = .returned (.int .i64 (limF m)) ∧ w = w' := by
  have HT := Lib.hid hT
  clear hT
  by_cases hm : 1 ≤ m ∧ m ≤ 7
  · obtain ⟨h1, h2⟩ := hm
    obtain ⟨M, rfl⟩ : ∃ M : Nat, m = M := ⟨m.toNat, by omega⟩
    have hc := HT.out.2.2 M (by omega)
    rw [← lim_at M (by omega)] at hc
    obtain ⟨v, hv⟩ : ∃ v, limF (M : Int) = v := ⟨_, rfl⟩
    have HV := Lib.hid hv
    rw [hv] at hc
    clear hv
    have i0 : (0 : Int) ≤ (M : Int) := by omega
    have i1 : (M : Int) < 8 := by omega
    go_enter Tryd.func14, Tryd.ntmps14
    go_wp2
    go_ret
    exact ⟨by rw [HV.out]; rfl, rfl⟩
  · have H := Lib.hid (lim_out m hm)
    rcases (show m < 1 ∨ (1 ≤ m ∧ 7 < m) by omega) with h1 | ⟨h1, h2⟩
    · clear hm
      go_enter Tryd.func14, Tryd.ntmps14
      go_wp2
      go_ret
      exact ⟨ret_int H.out.symm, rfl⟩
    · clear hm
      go_enter Tryd.func14, Tryd.ntmps14
      go_wp2
      go_ret
      exact ⟨ret_int H.out.symm, rfl⟩
theorem limitR_any (m : Int) (w : World) : Calls Tryd.prog 15 #[.int .i64 m] w fun e w' => e = .returned (.int .i64 (limF m)) ∧ w = w' := by
  rcases (show m = 2 ∨ m = 3 ∨ m = 4 ∨ m = 5 ∨ (m ≠ 2 ∧ m ≠ 3 ∧ m ≠ 4 ∧ m ≠ 5) by omega) with rfl | rfl | rfl | rfl | ⟨h2, h3, h4, h5⟩
  · go_enter Tryd.func15, Tryd.ntmps15
    go_wp2
    go_ret
    exact ⟨rfl, rfl⟩
  · go_enter Tryd.func15, Tryd.ntmps15
    go_wp2
    go_ret
    exact ⟨rfl, rfl⟩
  · go_enter Tryd.func15, Tryd.ntmps15
    go_wp2
    go_ret
    exact ⟨rfl, rfl⟩
  · go_enter Tryd.func15, Tryd.ntmps15
    go_wp2
    go_ret
    exact ⟨rfl, rfl⟩
  · have H : Hid (limF m = 0) := by
      show limF m = 0
      by_cases hm : 1 ≤ m ∧ m ≤ 7
      · rcases seven hm with rfl | rfl | rfl | rfl | rfl | rfl | rfl <;> first | rfl | omega
      · exact lim_out m hm
    have b2 : (m == 2) = false := by simpa using h2
    have b3 : (m == 3) = false := by simpa using h3
    have b4 : (m == 4) = false := by simpa using h4
    have b5 : (m == 5) = false := by simpa using h5
    clear h2 h3 h4 h5
    go_enter Tryd.func15, Tryd.ntmps15
    go_wp2
    go_ret
    exact ⟨ret_int H.out.symm, rfl⟩
theorem sup_any (m : Int) (w : World) : Calls Tryd.prog 16 #[.int .i64 m] w fun e w' => e = .returned (.bool (m == 2)) ∧ w = w' := by
  go_enter Tryd.func16, Tryd.ntmps16
  go_wp2
  go_ret
  exact ⟨rfl, rfl⟩
theorem supR_any (m : Int) (w : World) : Calls Tryd.prog 17 #[.int .i64 m] w fun e w' => e = .returned (.bool (m == 2)) ∧ w = w' := by
  go_enter Tryd.func17, Tryd.ntmps17
  go_wp2
  go_ret
  exact ⟨rfl, rfl⟩

set_option maxHeartbeats 4000000 in
theorem nextR0_any (m ev : Int) (w : World) : Calls Tryd.prog 20 #[.int .i64 m, .int .i64 ev] w fun e w' => e = .returned (.int .i64 (nextF m ev)) ∧ w = w' := by
  by_cases hm : 1 ≤ m ∧ m ≤ 7
  · by_cases he : 1 ≤ ev ∧ ev ≤ 7
    · rcases seven hm with rfl | rfl | rfl | rfl | rfl | rfl | rfl <;> rcases seven he with rfl | rfl | rfl | rfl | rfl | rfl | rfl
      all_goals
        clear hm he
        go_enter Tryd.func20, Tryd.ntmps20
        go_wp2
        go_ret
        exact ⟨rfl, rfl⟩
    · have H := Lib.hid (next_out m ev (by omega))
      have b1 : (ev == 1) = false := by rw [beq_eq_false_iff_ne]; omega
      have b2 : (ev == 2) = false := by rw [beq_eq_false_iff_ne]; omega
      have b3 : (ev == 3) = false := by rw [beq_eq_false_iff_ne]; omega
      have b4 : (ev == 4) = false := by rw [beq_eq_false_iff_ne]; omega
      have b5 : (ev == 5) = false := by rw [beq_eq_false_iff_ne]; omega
      have b6 : (ev == 6) = false := by rw [beq_eq_false_iff_ne]; omega
      have b7 : (ev == 7) = false := by rw [beq_eq_false_iff_ne]; omega
      obtain ⟨h1, h2⟩ := hm
      clear he
      go_enter Tryd.func20, Tryd.ntmps20
      go_wp2
      go_ret
      exact ⟨ret_int H.out.symm, rfl⟩
  · have H := Lib.hid (next_out m ev (by omega))
    rcases (show m < 1 ∨ (1 ≤ m ∧ 7 < m) by omega) with h1 | ⟨h1, h2⟩
    · clear hm
      go_enter Tryd.func20, Tryd.ntmps20
      go_wp2
      go_ret
      exact ⟨ret_int H.out.symm, rfl⟩
    · clear hm
      go_enter Tryd.func20, Tryd.ntmps20
      go_wp2
      go_ret
      exact ⟨ret_int H.out.symm, rfl⟩
theorem nextR_any (m ev : Int) (w : World) : Calls Tryd.prog 9 #[.int .i64 m, .int .i64 ev] w (NextPost m ev w) := by
  go_enter Tryd.func9, Tryd.ntmps9
  go_wp2_with fail
  refine (nextR0_any m ev _).mono ?_
  rintro e w' ⟨rfl, rfl⟩
  obtain ⟨v, hv⟩ : ∃ v, nextF m ev = v := ⟨_, rfl⟩
  rw [hv]
  have HV := Lib.hid hv
  clear hv
  go_wp2_with fail
  go_ret2
  exact ⟨by rw [HV.out]; rfl, rfl⟩
end Go.Proofs.YtnjlfoncgkdkcaaDoor
