/- Take, large and Send: contracts. -/
import Derived.Test.YtmicbpeohfmepaaWalks
namespace Go.Proofs.Ytmicbpeohfmepaa
open Go.RowKit

theorem large_any (kd fr to sq tm as_ ae : Int) (P : Option Addr) (pn pc : Nat) (L : Option Addr) (ln lc : Nat) (r0 r1 r2 r3 : Int) (rb : Bool) (w : World) (b : Bool) (hb : b = (decide (200 < pn) || decide (200 < ln))) : Calls Try.prog 8 #[.agg #[.int .i64 kd, .int .i64 fr, .int .i64 to, .int .i64 sq, .int .i64 tm, .int .i64 as_, .int .i64 ae, .slice P pn pc, .slice L ln lc, .int .i64 r0, .int .i64 r1, .int .i64 r2, .int .i64 r3, .bool rb]] w fun e w' => e = .returned (.bool b) ∧ Below w.heap.size w w' := by
  by_cases h1 : 200 < pn
  · obtain rfl : b = true := by rw [hb]; simp [h1]
    clear hb
    go_enter Try.func8, Try.ntmps8
    go_wp2
    go_ret
    exact ⟨rfl, (Below.refl _ _).alloc (Nat.le_refl _) _⟩
  · by_cases h2 : 200 < ln
    · obtain rfl : b = true := by rw [hb]; simp [h2]
      clear hb
      go_enter Try.func8, Try.ntmps8
      go_wp2
      go_ret
      exact ⟨ret_bool (by simp; omega), (Below.refl _ _).alloc (Nat.le_refl _) _⟩
    · obtain rfl : b = false := by rw [hb]; simp; omega
      clear hb
      go_enter Try.func8, Try.ntmps8
      go_wp2
      go_ret
      exact ⟨ret_bool (by simp; omega), (Below.refl _ _).alloc (Nat.le_refl _) _⟩

def TakePost (p o i h fr sq tm now : Int) (w : World) (e : Ending) (w' : World) : Prop := e = .returned (.tuple #[.agg #[.int .i64 p, .int .i64 o, .int .i64 (tIn p i fr sq tm now), .int .i64 (tHeard p i h fr sq tm now)], .int .i64 (errI p i fr sq tm now)]) ∧ Below w.heap.size w w'
theorem take_arg (p i h fr sq tm now : Int) (hp : fr ≠ p) : errI p i fr sq tm now = 1 ∧ tIn p i fr sq tm now = i ∧ tHeard p i h fr sq tm now = h := by
  have e : errI p i fr sq tm now = 1 := by unfold errI; rw [if_pos hp]
  exact ⟨e, by unfold tIn; rw [e]; rfl, by unfold tHeard; rw [e]; rfl⟩
theorem take_time (p i h fr sq tm now : Int) (hp : fr = p) (hr : recB tm now 4 = false) : errI p i fr sq tm now = 15 ∧ tIn p i fr sq tm now = i ∧ tHeard p i h fr sq tm now = h := by
  have e : errI p i fr sq tm now = 15 := by unfold errI; rw [if_neg (by simpa using hp), if_pos hr]
  exact ⟨e, by unfold tIn; rw [e]; rfl, by unfold tHeard; rw [e]; rfl⟩
theorem take_order (p i h fr sq tm now : Int) (hp : fr = p) (hr : recB tm now 4 = true) (hs : sq ≤ i) : errI p i fr sq tm now = 7 ∧ tIn p i fr sq tm now = i ∧ tHeard p i h fr sq tm now = h := by
  have e : errI p i fr sq tm now = 7 := by unfold errI; rw [if_neg (by simpa using hp), if_neg (by simp [hr]), if_pos hs]
  exact ⟨e, by unfold tIn; rw [e]; rfl, by unfold tHeard; rw [e]; rfl⟩
theorem take_ok (p i h fr sq tm now : Int) (hp : fr = p) (hr : recB tm now 4 = true) (hs : ¬ sq ≤ i) : errI p i fr sq tm now = 0 ∧ tIn p i fr sq tm now = sq ∧ tHeard p i h fr sq tm now = now := by
  have e : errI p i fr sq tm now = 0 := by unfold errI; rw [if_neg (by simpa using hp), if_neg (by simp [hr]), if_neg hs]
  exact ⟨e, by unfold tIn; rw [if_pos e], by unfold tHeard; rw [if_pos e]⟩
theorem take_post {p o i h fr sq tm now a b c : Int} {w w' : World} {e : Ending} (H : errI p i fr sq tm now = c ∧ tIn p i fr sq tm now = a ∧ tHeard p i h fr sq tm now = b) (he : e = .returned (.tuple #[.agg #[.int .i64 p, .int .i64 o, .int .i64 a, .int .i64 b], .int .i64 c])) (hb : Below w.heap.size w w') : TakePost p o i h fr sq tm now w e w' := by
  obtain ⟨rfl, rfl, rfl⟩ := H
  exact ⟨he, hb⟩
theorem below3 (w : World) (A B C : Obj) : Below w.heap.size w (((w.alloc A).alloc B).alloc C) := (((Below.refl _ _).alloc (Nat.le_refl _) _).alloc (by simp) _).alloc (by simp; omega) _

set_option maxHeartbeats 1000000 in
theorem take_any (p o i h : Int) (kd fr to sq tm as_ ae : Int) (P : Option Addr) (pn pc : Nat) (L : Option Addr) (ln lc : Nat) (r0 r1 r2 r3 : Int) (rb : Bool) (now : Int) (w : World) (htm : InI tm) (hnow : InI now) :
    Calls Try.prog 15 #[.agg #[.int .i64 p, .int .i64 o, .int .i64 i, .int .i64 h], .agg #[.int .i64 kd, .int .i64 fr, .int .i64 to, .int .i64 sq, .int .i64 tm, .int .i64 as_, .int .i64 ae, .slice P pn pc, .slice L ln lc, .int .i64 r0, .int .i64 r1, .int .i64 r2, .int .i64 r3, .bool rb], .int .i64 now] w (TakePost p o i h fr sq tm now w) := by
  by_cases hp : fr = p
  · have hb : (fr != p) = false := by simpa using hp
    cases hr : recB tm now 4
    · have H := Lib.hid (take_time p i h fr sq tm now hp hr)
      have HR := Lib.hid hr
      clear hp hr
      go_enter Try.func15, Try.ntmps15
      go_wp2_with fail
      refine (recent_any tm now 4 _ htm hnow (by omega)).mono ?_
      rintro e w' ⟨rfl, rfl⟩
      rw [HR.out]
      go_wp2
      exact bodyPost_ret (v := .tuple #[.agg #[.int .i64 p, .int .i64 o, .int .i64 i, .int .i64 h], .int .i64 15]) (by simp [results, Try.results15, go_sem]) rfl (take_post H.out rfl (below3 _ _ _ _))
    · have HR := Lib.hid hr
      by_cases hs : sq ≤ i
      · have H := Lib.hid (take_order p i h fr sq tm now hp hr hs)
        clear hp hr
        go_enter Try.func15, Try.ntmps15
        go_wp2_with fail
        refine (recent_any tm now 4 _ htm hnow (by omega)).mono ?_
        rintro e w' ⟨rfl, rfl⟩
        rw [HR.out]
        go_wp2
        exact bodyPost_ret (v := .tuple #[.agg #[.int .i64 p, .int .i64 o, .int .i64 i, .int .i64 h], .int .i64 7]) (by simp [results, Try.results15, go_sem]) rfl (take_post H.out rfl (below3 _ _ _ _))
      · have H := Lib.hid (take_ok p i h fr sq tm now hp hr hs)
        clear hp hr
        go_enter Try.func15, Try.ntmps15
        go_wp2_with fail
        refine (recent_any tm now 4 _ htm hnow (by omega)).mono ?_
        rintro e w' ⟨rfl, rfl⟩
        rw [HR.out]
        go_wp2
        exact bodyPost_ret (v := .tuple #[.agg #[.int .i64 p, .int .i64 o, .int .i64 sq, .int .i64 now], .int .i64 0]) (by simp [results, Try.results15, go_sem]) rfl (take_post H.out rfl (below3 _ _ _ _))
  · have H := Lib.hid (take_arg p i h fr sq tm now hp)
    have hb : (fr != p) = true := by simpa using hp
    clear hp
    go_enter Try.func15, Try.ntmps15
    go_wp2
    exact bodyPost_ret (v := .tuple #[.agg #[.int .i64 p, .int .i64 o, .int .i64 i, .int .i64 h], .int .i64 1]) (by simp [results, Try.results15, go_sem]) rfl (take_post H.out rfl (below3 _ _ _ _))

set_option maxHeartbeats 1000000 in
theorem takeR_any (p o i h : Int) (kd fr to sq tm as_ ae : Int) (P : Option Addr) (pn pc : Nat) (L : Option Addr) (ln lc : Nat) (r0 r1 r2 r3 : Int) (rb : Bool) (now : Int) (w : World) (htm : InI tm) (hnow : InI now) :
    Calls Try.prog 16 #[.agg #[.int .i64 p, .int .i64 o, .int .i64 i, .int .i64 h], .agg #[.int .i64 kd, .int .i64 fr, .int .i64 to, .int .i64 sq, .int .i64 tm, .int .i64 as_, .int .i64 ae, .slice P pn pc, .slice L ln lc, .int .i64 r0, .int .i64 r1, .int .i64 r2, .int .i64 r3, .bool rb], .int .i64 now] w (TakePost p o i h fr sq tm now w) := by
  by_cases hp : fr = p
  · have hb : (fr != p) = false := by simpa using hp
    cases hr : recB tm now 4
    · have H := Lib.hid (take_time p i h fr sq tm now hp hr)
      have HR := Lib.hid hr
      clear hp hr
      go_enter Try.func16, Try.ntmps16
      go_wp2_with fail
      refine (within_any tm now 4 _ htm hnow (by omega)).mono ?_
      rintro e w' ⟨rfl, rfl⟩
      rw [HR.out]
      go_wp2
      exact bodyPost_ret (v := .tuple #[.agg #[.int .i64 p, .int .i64 o, .int .i64 i, .int .i64 h], .int .i64 15]) (by simp [results, Try.results16, go_sem]) rfl (take_post H.out rfl (below3 _ _ _ _))
    · have HR := Lib.hid hr
      by_cases hs : sq ≤ i
      · have H := Lib.hid (take_order p i h fr sq tm now hp hr hs)
        clear hp hr
        go_enter Try.func16, Try.ntmps16
        go_wp2_with fail
        refine (within_any tm now 4 _ htm hnow (by omega)).mono ?_
        rintro e w' ⟨rfl, rfl⟩
        rw [HR.out]
        go_wp2
        exact bodyPost_ret (v := .tuple #[.agg #[.int .i64 p, .int .i64 o, .int .i64 i, .int .i64 h], .int .i64 7]) (by simp [results, Try.results16, go_sem]) rfl (take_post H.out rfl (below3 _ _ _ _))
      · have H := Lib.hid (take_ok p i h fr sq tm now hp hr hs)
        clear hp hr
        go_enter Try.func16, Try.ntmps16
        go_wp2_with fail
        refine (within_any tm now 4 _ htm hnow (by omega)).mono ?_
        rintro e w' ⟨rfl, rfl⟩
        rw [HR.out]
        go_wp2
        exact bodyPost_ret (v := .tuple #[.agg #[.int .i64 p, .int .i64 o, .int .i64 sq, .int .i64 now], .int .i64 0]) (by simp [results, Try.results16, go_sem]) rfl (take_post H.out rfl (below3 _ _ _ _))
  · have H := Lib.hid (take_arg p i h fr sq tm now hp)
    have hb : (fr != p) = true := by simpa using hp
    clear hp
    go_enter Try.func16, Try.ntmps16
    go_wp2
    exact bodyPost_ret (v := .tuple #[.agg #[.int .i64 p, .int .i64 o, .int .i64 i, .int .i64 h], .int .i64 1]) (by simp [results, Try.results16, go_sem]) rfl (take_post H.out rfl (below3 _ _ _ _))

theorem below4 (w : World) (A B C D : Obj) : Below w.heap.size w ((((w.alloc A).alloc B).alloc C).alloc D).drew := ((below3 w A B C).alloc (by simp; omega) _).drew
theorem out_yes (o : Int) (h : o < 1073741824) : outI o = o + 1 := by unfold outI; rw [if_pos h]
theorem out_no (o : Int) (h : ¬ o < 1073741824) : outI o = o := by unfold outI; rw [if_neg h]
def SendRPost (p o i h kd fr as_ ae : Int) (P : Option Addr) (pn pc : Nat) (L : Option Addr) (ln lc : Nat) (r0 r1 r2 r3 : Int) (rb : Bool) (now : Int) (w : World) (e : Ending) (w' : World) : Prop :=
  e = .returned (.tuple #[.agg #[.int .i64 p, .int .i64 (outI o), .int .i64 i, .int .i64 h], .agg #[.int .i64 kd, .int .i64 fr, .int .i64 p, .int .i64 (outI o), .int .i64 now, .int .i64 as_, .int .i64 ae, .slice P pn pc, .slice L ln lc, .int .i64 r0, .int .i64 r1, .int .i64 r2, .int .i64 r3, .bool rb]]) ∧ Below w.heap.size w w'
set_option maxHeartbeats 2000000 in
theorem sendR_any (p o i h : Int) (kd fr to sq tm as_ ae : Int) (P : Option Addr) (pn pc : Nat) (L : Option Addr) (ln lc : Nat) (r0 r1 r2 r3 : Int) (rb : Bool) (now : Int) (w : World) (ho : InI o) : Calls Try.prog 11 #[.agg #[.int .i64 p, .int .i64 o, .int .i64 i, .int .i64 h], .agg #[.int .i64 kd, .int .i64 fr, .int .i64 to, .int .i64 sq, .int .i64 tm, .int .i64 as_, .int .i64 ae, .slice P pn pc, .slice L ln lc, .int .i64 r0, .int .i64 r1, .int .i64 r2, .int .i64 r3, .bool rb], .int .i64 now] w (SendRPost p o i h kd fr as_ ae P pn pc L ln lc r0 r1 r2 r3 rb now w) := by
  unfold InI at ho
  by_cases h1 : o < 1073741824
  · have H := Lib.hid (out_yes o h1)
    go_enter Try.func11, Try.ntmps11
    go_wp2
    go_region
    go_wp2
    exact bodyPost_ret (v := .tuple #[.agg #[.int .i64 p, .int .i64 (o + 1), .int .i64 i, .int .i64 h], .agg #[.int .i64 kd, .int .i64 fr, .int .i64 p, .int .i64 (o + 1), .int .i64 now, .int .i64 as_, .int .i64 ae, .slice P pn pc, .slice L ln lc, .int .i64 r0, .int .i64 r1, .int .i64 r2, .int .i64 r3, .bool rb]]) (by simp [results, Try.results11, go_sem]) rfl ⟨by rw [H.out], below4 _ _ _ _ _⟩
  · have H := Lib.hid (out_no o h1)
    go_enter Try.func11, Try.ntmps11
    go_wp2
    go_region
    go_wp2
    exact bodyPost_ret (v := .tuple #[.agg #[.int .i64 p, .int .i64 o, .int .i64 i, .int .i64 h], .agg #[.int .i64 kd, .int .i64 fr, .int .i64 p, .int .i64 o, .int .i64 now, .int .i64 as_, .int .i64 ae, .slice P pn pc, .slice L ln lc, .int .i64 r0, .int .i64 r1, .int .i64 r2, .int .i64 r3, .bool rb]]) (by simp [results, Try.results11, go_sem]) rfl ⟨by rw [H.out], below4 _ _ _ _ _⟩
end Go.Proofs.Ytmicbpeohfmepaa
