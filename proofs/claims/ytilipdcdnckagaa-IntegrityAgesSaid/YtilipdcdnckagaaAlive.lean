/- The chapter's examples hold: alive of law36 returns true and changes nothing that was there. -/
import Derived.Test.YtilipdcdnckagaaWalks
namespace Go.Proofs.Ytilipdcdnckagaa
open Go.RowKit

set_option maxHeartbeats 1000000 in
theorem alive_any (w : World) : Calls Try.prog 12 #[] w fun e w' => e = .returned (.bool true) ∧ Below w.heap.size w w' := by
  go_enter Try.func12, Try.ntmps12
  go_wp2_with fail
  refine (confirm_any _ _ _ _).mono ?_
  rintro e w1 ⟨rfl, hb⟩
  have hz := hb.size
  go_wp2
  go_ret
  refine ⟨rfl, ?_⟩
  repeat (first | exact hb | refine Below.alloc ?_ (by first | exact hz | (simp; omega)) _ | refine Below.setCell ?_ (by first | exact hz | (simp; omega)) _ | refine Below.drew ?_)

end Go.Proofs.Ytilipdcdnckagaa
