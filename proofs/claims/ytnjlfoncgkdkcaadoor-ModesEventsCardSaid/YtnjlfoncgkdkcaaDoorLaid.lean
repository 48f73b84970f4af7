/- Chapter 35: what the listed variables give the walks; the start for the witness. -/
import Derived.Test.YtnjlfoncgkdkcaaDoorRows
import Derived.Test.YtnjlfoncgkdkcaaDoorPlain
import Derived.ProofKit
import Derived.LaidMore
import Derived.OpenShut
import Derived.Stop.Joined
import Derived.Lib.LaidTab
namespace Go.Proofs.YtnjlfoncgkdkcaaDoor
open Go.ChangeShapes Go.WideShapes Go.ChangeAt Go.RowKit

abbrev laid2 : List (String × DataW Unit) := [("signalling/modes.transitions", Rows.laid_signalling_modes_transitions), ("signalling/modes.limits", Rows.laid_signalling_modes_limits)]
theorem gT : Tryd.prog.globalNamed "signalling/modes.transitions" = some 0 := by kernel_rfl
theorem gL : Tryd.prog.globalNamed "signalling/modes.limits" = some 1 := by kernel_rfl
theorem tT : (Tryd.prog.globals[0]?).map (·.type) = some 36 := by kernel_rfl
theorem tL : (Tryd.prog.globals[1]?).map (·.type) = some 35 := by kernel_rfl
theorem c3 : Tryd.prog.cellsOf 3 = 1 := by kernel_rfl
theorem c35 : Tryd.prog.cellsOf 35 = 8 := by kernel_rfl
theorem c36 : Tryd.prog.cellsOf 36 = 64 := by kernel_rfl

theorem door_met (os : Os) (args : Array Value) : laidMetH Tryd.prog laid2 ((World.doorLaid Tryd.prog 400 os).forCall (fun _ _ => 0) ⟨#[], args, []⟩).memory :=
  laidMetH_of_parts3 (fuel := 8) (laidMet_of_run' 8 (by kernel_rfl) (by kernel_rfl)) (by kernel_rfl) (by kernel_rfl)

theorem laid_rows {H : Type} : (Rows.laid_signalling_modes_transitions : DataW H) = .agg ((List.range 8).map fun i => Lib.tabData .i64 ((tab.drop (i * 8)).take 8)) := by rfl
theorem laid_lims {H : Type} : (Rows.laid_signalling_modes_limits : DataW H) = Lib.tabData .i64 lim := by rfl

theorem of_laid {W : World} (h : laidMetH Tryd.prog laid2 W) : Tabs W := by
  rw [MakeChecks.laidMetH_plain _ _ _ (by kernel_rfl)] at h
  obtain ⟨ps, ⟨g0, t0, cs0, f0, p0, q0, hg0, ht0, hv0, hd0, ⟨g1, t1, cs1, f1, p1, q1, hg1, ht1, hv1, hd1, _, _⟩, _⟩, _, _⟩ := h
  obtain rfl := Option.some.inj (gT.symm.trans hg0)
  obtain rfl := Option.some.inj (gL.symm.trans hg1)
  obtain rfl := Option.some.inj (tT.symm.trans ht0)
  obtain rfl := Option.some.inj (tL.symm.trans ht1)
  have hlim : cs1.toList = lim.map (Value.int .i64) := by
    rw [laid_lims] at hd1
    exact Lib.cells_of_tab Tryd.underlying35 Tryd.underlying3 c3 c35 hd1
  have cellL : ∀ i, i < 8 → W.cell? ⟨1, i, none⟩ = some (.int .i64 (lim.getD i 0)) := fun i hi => by
    rw [World.var?_cell hg1 hv1 i, ← Array.getElem?_toList, hlim, List.getElem?_map, List.getD_eq_getElem?_getD]
    have : lim[i]? = some (lim[i]'(by simpa [lim] using hi)) := List.getElem?_eq_getElem _
    rw [this]; rfl
  rw [laid_rows] at hd0
  obtain ⟨xs, m1, _, hx, hlen, hn, hel⟩ := DataW.trod_array Tryd.underlying36 hd0
  simp only [Prod.mk.injEq, DataW.agg.injEq] at hx
  have cellT : ∀ i, i < 64 → W.cell? ⟨0, i, none⟩ = some (.int .i64 (tab.getD i 0)) := fun i hi => by
    have hi8 : i / 8 < 8 := by omega
    have he := hel (i / 8) hi8
    rw [c35] at he
    have hxi : xs[i / 8]? = some (xs[i / 8]'(by omega)) := List.getElem?_eq_getElem _
    rw [hxi] at he
    have hfst : (xs[i / 8]'(by omega)).1 = Lib.tabData .i64 ((tab.drop (i / 8 * 8)).take 8) := by
      have := congrArg (fun l => l[i / 8]?) hx.1
      simp [hxi, hi8] at this
      exact this.symm
    obtain ⟨y1, y2⟩ : ∃ y1 y2, xs[i / 8]'(by omega) = (y1, y2) := ⟨_, _, rfl⟩
    have hc := Lib.cells_of_tab (zs := (tab.drop (i / 8 * 8)).take 8) (p := (xs[i / 8]'(by omega)).2) Tryd.underlying35 Tryd.underlying3 c3 c35 (he.trans (by rw [← hfst]))
    rw [World.var?_cell hg0 hv0 i, ← Array.getElem?_toList]
    have hg := congrArg (fun l => l[i % 8]?) hc
    simp only [List.getElem?_take, List.getElem?_drop, List.getElem?_map, if_pos (show i % 8 < 8 by omega)] at hg
    rw [show i / 8 * 8 + i % 8 = i by omega] at hg
    have hti : tab[i]? = some (tab[i]'(by simpa [tab] using hi)) := List.getElem?_eq_getElem _
    rw [hti] at hg
    rw [hg, List.getD_eq_getElem?_getD, hti]; rfl
  refine ⟨?_, cellT, cellL⟩
  have := block_lt_of_cell (cellL 0 (by omega))
  exact this
end Go.Proofs.YtnjlfoncgkdkcaaDoor
