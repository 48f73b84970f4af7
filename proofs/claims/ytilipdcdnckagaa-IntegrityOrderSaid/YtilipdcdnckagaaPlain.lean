/- Plain facts on numbers for chapter 36: no program in sight. -/
import Derived.WalkKit
namespace Go.Proofs.Ytilipdcdnckagaa
open Go.RowKit

def InI (n : Int) : Prop := -9223372036854775808 ≤ n ∧ n ≤ 9223372036854775807
/-- The cycle 's' is at most five cycles before 'n'. -/
def freshB (s n : Int) : Bool := decide (s ≤ n) && decide (n - s ≤ 5)
def wholeB (k : Bool) (s n : Int) : Bool := k && freshB s n
def rearI (l m : Int) : Int := if m < -2147483648 ∨ m - l < -2147483648 then -2147483648 else m - l
def beyondB (wh : Bool) (l m at_ : Int) : Bool := wh && decide (at_ ≤ rearI l m)

theorem ret_bool {a b : Bool} (h : a = b) : Ending.returned (.bool a) = .returned (.bool b) := by rw [h]
theorem ret_int {k : IntKind} {a b : Int} (h : a = b) : Ending.returned (.int k a) = .returned (.int k b) := by rw [h]

theorem u64_diff (s n : Int) (hs : InI s) (hn : InI n) (h : s ≤ n) :
    decide (IntKind.u64.wrap (IntKind.u64.wrap n - IntKind.u64.wrap s) ≤ 5) = freshB s n := by
  unfold InI at hs hn
  unfold freshB
  rw [Bool.eq_iff_iff]
  simp only [IntKind.wrap_u64, decide_eq_true_eq, Bool.and_eq_true]
  omega
theorem fresh_no (s n : Int) (h : ¬ s ≤ n) : false = freshB s n := by
  unfold freshB; simp [h]

end Go.Proofs.Ytilipdcdnckagaa
