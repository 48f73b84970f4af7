/- The walk of IntegrityAges. -/
import Derived.Test.YtilipdcdnckagaaAlive
namespace Go.Proofs.Ytilipdcdnckagaa
open Go.RowKit

theorem bcell {W w1 : World} (hb : Below W.heap.size W w1) : (∀ b o, b < W.heap.size → w1.cell? ⟨b, o, none⟩ = W.cell? ⟨b, o, none⟩) ∧ (∀ b o, b < W.heap.size → w1.frozen? ⟨b, o, none⟩ = W.frozen? ⟨b, o, none⟩) :=
  ⟨fun b o h => hb.cell (p := ⟨b, o, none⟩) h, fun b o h => hb.frozen (p := ⟨b, o, none⟩) h⟩

theorem alive_returns {R : Ending → World → Prop} (W : World) (h : ∀ w1, Below W.heap.size W w1 → R (.returned (.bool true)) w1) : Calls Try.prog 12 #[] W R :=
  (alive_any W).mono fun e w1 ⟨he, hb⟩ => by subst he; exact h w1 hb

set_option maxHeartbeats 1000000 in
theorem ages_walk (k : Bool) (s n l : Int) (w : World) (hn : InI n) (hl : InI l) :
    Calls Try.prog 5 #[.agg #[.bool k, .int .i64 s], .int .i64 n, .int .i64 l] w fun e w' => e = .returned (.bool true) ∧ Below w.heap.size w w' := by
  by_cases h : n < -1073741824 ∨ n > 1073741824 ∨ l < -1073741824 ∨ l > 1073741824
  · rcases (show n < -1073741824 ∨ (-1073741824 ≤ n ∧ n > 1073741824) ∨ (-1073741824 ≤ n ∧ n ≤ 1073741824 ∧ l < -1073741824) ∨ (-1073741824 ≤ n ∧ n ≤ 1073741824 ∧ -1073741824 ≤ l ∧ l > 1073741824) by omega) with h1 | ⟨h1, h2⟩ | ⟨h1, h2, h3⟩ | ⟨h1, h2, h3, h4⟩
    all_goals
      clear h
      go_enter Try.func5, Try.ntmps5
      go_wp2_with fail
      refine (alive_any _).mono ?_
      rintro e w1 ⟨rfl, hb⟩
      go_wp2_with fail
      go_ret
      exact ⟨rfl, ((Below.refl _ _).alloc (Nat.le_refl _) _).trans (hb.mono (by simp))⟩
  · have h1 : -1073741824 ≤ n := by omega
    have h2 : n ≤ 1073741824 := by omega
    have h3 : -1073741824 ≤ l := by omega
    have h4 : l ≤ 1073741824 := by omega
    clear h
    rcases (show (0 ≤ l - n ∧ l - n ≤ 5 ∧ wholeB true n l = true) ∨ (0 ≤ l - n ∧ 5 < l - n ∧ wholeB true n l = false) ∨ (l - n < 0 ∧ wholeB true n l = false) by
      unfold wholeB freshB
      by_cases a : 0 ≤ l - n <;> by_cases b : l - n ≤ 5 <;> simp [b] <;> omega) with ⟨a, b, c⟩ | ⟨a, b, c⟩ | ⟨a, c⟩
    all_goals
      have C := Lib.hid c
      clear c
      go_enter Try.func5, Try.ntmps5
      go_wp2_with fail
      refine (confirm_any k s n _).mono ?_
      rintro e w1 ⟨rfl, hb⟩
      go_wp2_with fail
      refine (whole_any true n l _ hn hl).mono ?_
      rintro e w2 ⟨rfl, hb2⟩
      rw [C.out]
      go_wp2_with fail
      refine (alive_any _).mono ?_
      rintro e w3 ⟨rfl, hb3⟩
      go_wp2_with fail
      go_ret
      refine ⟨by first | rfl | exact ret_bool (by simp; omega), ((((Below.refl _ _).alloc (Nat.le_refl _) _).trans (hb.mono (by simp))).trans (hb2.mono ?_)).trans (hb3.mono ?_)⟩
      all_goals (have z1 := hb.size; have z2 := hb2.size; simp at z1; omega)
end Go.Proofs.Ytilipdcdnckagaa
