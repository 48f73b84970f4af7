/- The chapter's examples hold: alive of law35 returns true. The walks of ModesNext and ModesLimits. -/
import Derived.Test.YtnjlfoncgkdkcaaDoorLists
namespace Go.Proofs.YtnjlfoncgkdkcaaDoor
open Go.RowKit

theorem RdI.lit (w : World) (l : List Int) (cs : Array Value) (t : TypeId) (g : Nat) (hcs : cs.toList = l.map (Value.int .i64)) (hg : w.heap.size = g) : RdI (w.alloc (.cells cs t)) (w.alloc (.cells cs t)).heap.size (some ⟨g, 0, none⟩) l := fun _ => by
  subst hg
  refine ⟨_, _, rfl, by simp, fun i z hz => ?_⟩
  rw [cell_of_row _ _ _ cs t (0, 0) (heap_alloc_new w _), ← Array.getElem?_toList, hcs]
  simp [hz]
theorem next11 (w : World) (hT : Tabs w) : Calls Tryd.prog 8 #[.int .i64 1, .int .i64 1] w fun e w' => e = .returned (.tuple #[.int .i64 2, .bool true]) ∧ w = w' := next_any 1 1 w hT
theorem next41 (w : World) (hT : Tabs w) : Calls Tryd.prog 8 #[.int .i64 4, .int .i64 1] w fun e w' => e = .returned (.tuple #[.int .i64 0, .bool false]) ∧ w = w' := next_any 4 1 w hT
theorem next63 (w : World) (hT : Tabs w) : Calls Tryd.prog 8 #[.int .i64 6, .int .i64 3] w fun e w' => e = .returned (.tuple #[.int .i64 7, .bool true]) ∧ w = w' := next_any 6 3 w hT
def IGivesN (n : Nat) (out : List Int) (w : World) (e : Ending) (w' : World) : Prop := ∃ A c, e = .returned (.slice A n c) ∧ RdI w' w'.heap.size A out ∧ Below w.heap.size w w'
theorem events7 (w : World) (hT : Tabs w) : Calls Tryd.prog 11 #[.int .i64 7] w (IGivesN 4 [1, 4, 5, 7] w) := events_any 7 w hT
theorem lim2 (w : World) (hT : Tabs w) : Calls Tryd.prog 14 #[.int .i64 2] w fun e w' => e = .returned (.int .i64 10000) ∧ w = w' := limit_any 2 w hT
theorem lim6 (w : World) (hT : Tabs w) : Calls Tryd.prog 14 #[.int .i64 6] w fun e w' => e = .returned (.int .i64 0) ∧ w = w' := limit_any 6 w hT
theorem sup2 (w : World) : Calls Tryd.prog 16 #[.int .i64 2] w fun e w' => e = .returned (.bool true) ∧ w = w' := sup_any 2 w
theorem sup6 (w : World) : Calls Tryd.prog 16 #[.int .i64 6] w fun e w' => e = .returned (.bool false) ∧ w = w' := sup_any 6 w

set_option maxHeartbeats 2000000 in
theorem alive_any (w : World) (hT : Tabs w) : Calls Tryd.prog 10 #[] w fun e w' => e = .returned (.bool true) ∧ Below w.heap.size w w' := by
  have HT := Lib.hid hT
  clear hT
  go_enter Tryd.func10, Tryd.ntmps10
  go_wp2_with fail
  refine (next11 _ HT.out).mono ?_
  rintro e w' ⟨rfl, rfl⟩
  go_wp2_with fail
  refine (next41 _ HT.out).mono ?_
  rintro e w' ⟨rfl, rfl⟩
  go_wp2_with fail
  refine (next63 _ HT.out).mono ?_
  rintro e w' ⟨rfl, rfl⟩
  go_wp2_with fail
  refine (events7 _ HT.out).mono ?_
  rintro e w1 ⟨A, c, rfl, hA, hb⟩
  have HB := Lib.hid hb
  have HA := Lib.hid hA
  clear hb hA
  go_wp2_with fail
  refine (same_self A _ _ _ _ _ [1, 4, 5, 7] _ rfl rfl (by decide) (HA.out.at_world ((Below.refl _ _).alloc (Nat.le_refl _) _)) (RdI.lit _ [1, 4, 5, 7] _ _ _ rfl rfl)).mono ?_
  rintro e w2 ⟨rfl, hb2⟩
  have B2 : Below w.heap.size w w2 := carry (HB.out.alloc HB.out.size _) hb2
  have HT2 := Lib.hid (HT.out.below B2)
  clear hb2
  go_wp2_with fail
  refine (lim2 _ HT2.out).mono ?_
  rintro e w' ⟨rfl, rfl⟩
  go_wp2_with fail
  refine (lim6 _ HT2.out).mono ?_
  rintro e w' ⟨rfl, rfl⟩
  go_wp2_with fail
  refine (sup2 _).mono ?_
  rintro e w' ⟨rfl, rfl⟩
  go_wp2_with fail
  refine (sup6 _).mono ?_
  rintro e w' ⟨rfl, rfl⟩
  go_wp2_with fail
  go_ret
  exact ⟨rfl, B2⟩

theorem next_walk (m ev : Int) (w : World) (hT : Tabs w) : Calls Tryd.prog 3 #[.int .i64 m, .int .i64 ev] w fun e w' => e = .returned (.bool true) ∧ Below w.heap.size w w' := by
  have HT := Lib.hid hT
  clear hT
  go_enter Tryd.func3, Tryd.ntmps3
  go_wp2_with fail
  refine (next_any m ev _ HT.out).mono ?_
  rintro e w' ⟨rfl, rfl⟩
  go_wp2_with fail
  refine (nextR_any m ev _).mono ?_
  rintro e w' ⟨rfl, rfl⟩
  go_wp2_with fail
  refine (alive_any _ HT.out).mono ?_
  rintro e w1 ⟨rfl, hb⟩
  go_wp2_with fail
  go_ret
  exact ⟨rfl, hb⟩
theorem limits_walk (m : Int) (w : World) (hT : Tabs w) : Calls Tryd.prog 5 #[.int .i64 m] w fun e w' => e = .returned (.bool true) ∧ Below w.heap.size w w' := by
  have HT := Lib.hid hT
  clear hT
  go_enter Tryd.func5, Tryd.ntmps5
  go_wp2_with fail
  refine (limit_any m _ HT.out).mono ?_
  rintro e w' ⟨rfl, rfl⟩
  go_wp2_with fail
  refine (limitR_any m _).mono ?_
  rintro e w' ⟨rfl, rfl⟩
  go_wp2_with fail
  refine (sup_any m _).mono ?_
  rintro e w' ⟨rfl, rfl⟩
  go_wp2_with fail
  refine (supR_any m _).mono ?_
  rintro e w' ⟨rfl, rfl⟩
  go_wp2_with fail
  refine (alive_any _ HT.out).mono ?_
  rintro e w1 ⟨rfl, hb⟩
  go_wp2_with fail
  go_ret
  exact ⟨rfl, hb⟩
end Go.Proofs.YtnjlfoncgkdkcaaDoor
