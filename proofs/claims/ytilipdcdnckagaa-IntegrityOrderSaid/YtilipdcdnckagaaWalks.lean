/- Contracts of the functions of chapter 36 (integrity) and of its reference, over the given translation. -/
import Derived.Test.YtilipdcdnckagaaChecked
import Derived.Test.YtilipdcdnckagaaPlain
import Derived.WalkLawsBesides
import Derived.WalkSpells
import Derived.Below
import Derived.Outline
import Derived.Lib.Hide
import Derived.OwnWalk
namespace Go.Proofs.Ytilipdcdnckagaa
open Go.RowKit

theorem below_alloc2 (w : World) (o1 o2 : Obj) : Below w.heap.size w ((w.alloc o1).alloc o2) := ((Below.refl _ _).alloc (Nat.le_refl _) o1).alloc (by simp) o2

set_option maxHeartbeats 400000 in
theorem fresh_any (s n : Int) (w : World) (hs : InI s) (hn : InI n) :
    Calls Try.prog 18 #[.int .i64 s, .int .i64 n, .int .u64 5] w fun e w' => e = .returned (.bool (freshB s n)) ∧ w = w' := by
  by_cases h : s ≤ n
  · go_enter Try.func18, Try.ntmps18
    go_wp2
    go_ret
    exact ⟨ret_bool (u64_diff s n hs hn h), rfl⟩
  · go_enter Try.func18, Try.ntmps18
    go_wp2
    go_ret
    exact ⟨ret_bool (fresh_no s n (by omega)), rfl⟩

theorem confirm_any (k : Bool) (s n : Int) (w : World) :
    Calls Try.prog 8 #[.agg #[.bool k, .int .i64 s], .int .i64 n] w fun e w' => e = .returned (.agg #[.bool true, .int .i64 n]) ∧ Below w.heap.size w w' := by
  go_enter Try.func8, Try.ntmps8
  go_wp2
  exact bodyPost_ret (v := .agg #[.bool true, .int .i64 n]) (by simp [results, Try.results8, go_sem]) rfl ⟨rfl, by repeat (first | exact Below.refl _ _ | refine Below.alloc ?_ (by simp) _ | refine Below.setCell ?_ (by simp) _)⟩
theorem confirmR_any (k : Bool) (s n : Int) (w : World) :
    Calls Try.prog 9 #[.agg #[.bool k, .int .i64 s], .int .i64 n] w fun e w' => e = .returned (.agg #[.bool true, .int .i64 n]) ∧ Below w.heap.size w w' := by
  go_enter Try.func9, Try.ntmps9
  go_wp2
  exact bodyPost_ret (v := .agg #[.bool true, .int .i64 n]) (by simp [results, Try.results9, go_sem]) rfl ⟨rfl, by repeat (first | exact Below.refl _ _ | refine Below.alloc ?_ (by simp) _ | refine Below.setCell ?_ (by simp) _)⟩

theorem whole_any (k : Bool) (s n : Int) (w : World) (hs : InI s) (hn : InI n) :
    Calls Try.prog 10 #[.agg #[.bool k, .int .i64 s], .int .i64 n] w fun e w' => e = .returned (.bool (wholeB k s n)) ∧ Below w.heap.size w w' := by
  cases k
  · go_enter Try.func10, Try.ntmps10
    go_wp2_with fail
    go_ret
    exact ⟨rfl, (Below.refl _ _).alloc (Nat.le_refl _) _⟩
  · go_enter Try.func10, Try.ntmps10
    go_wp2_with fail
    refine (fresh_any s n _ hs hn).mono ?_
    rintro e w' ⟨rfl, rfl⟩
    go_wp2_with fail
    go_ret
    exact ⟨ret_bool (by simp [wholeB]), (Below.refl _ _).alloc (Nat.le_refl _) _⟩
theorem wholeR_any (k : Bool) (s n : Int) (w : World) (hs : InI s) (hn : InI n) :
    Calls Try.prog 11 #[.agg #[.bool k, .int .i64 s], .int .i64 n] w fun e w' => e = .returned (.bool (wholeB k s n)) ∧ Below w.heap.size w w' := by
  cases k
  · go_enter Try.func11, Try.ntmps11
    go_wp2
    go_ret
    exact ⟨rfl, (Below.refl _ _).alloc (Nat.le_refl _) _⟩
  · by_cases h : s ≤ n
    · go_enter Try.func11, Try.ntmps11
      go_wp2
      go_ret
      exact ⟨ret_bool (by rw [u64_diff s n hs hn h]; simp [wholeB]), (Below.refl _ _).alloc (Nat.le_refl _) _⟩
    · go_enter Try.func11, Try.ntmps11
      go_wp2
      go_ret
      exact ⟨ret_bool (by rw [fresh_no s n (by omega)]; simp [wholeB]), (Below.refl _ _).alloc (Nat.le_refl _) _⟩


theorem rear_any (id : Int) (nm : ByteArray) (l sp ac se em de co ra : Int) (m : Int) (w : World) (hl : 1 ≤ l ∧ l ≤ 50000) (hm : InI m) :
    Calls Try.prog 14 #[.agg #[.int .i64 id, .string nm, .int .i64 l, .int .i64 sp, .int .i64 ac, .int .i64 se, .int .i64 em, .int .i64 de, .int .i64 co, .int .i64 ra], .int .i64 m] w fun e w' => e = .returned (.int .i64 (rearI l m)) ∧ Below w.heap.size w w' := by
  unfold InI at hm
  by_cases h : m < -2147483648
  · go_enter Try.func14, Try.ntmps14
    go_wp2
    go_ret
    exact ⟨ret_int (by unfold rearI; rw [if_pos (by omega)]), (Below.refl _ _).alloc (Nat.le_refl _) _⟩
  · by_cases h2 : m - l < -2147483648
    · go_enter Try.func14, Try.ntmps14
      go_wp2
      go_ret
      exact ⟨ret_int (by unfold rearI; rw [if_pos (by omega)]), (Below.refl _ _).alloc (Nat.le_refl _) _⟩
    · go_enter Try.func14, Try.ntmps14
      go_wp2
      go_ret
      exact ⟨ret_int (by unfold rearI; rw [if_neg (by omega)]), (Below.refl _ _).alloc (Nat.le_refl _) _⟩

theorem rearR_any (id : Int) (nm : ByteArray) (l sp ac se em de co ra : Int) (m : Int) (w : World) (hl : 1 ≤ l ∧ l ≤ 50000) (hm : InI m) :
    Calls Try.prog 15 #[.agg #[.int .i64 id, .string nm, .int .i64 l, .int .i64 sp, .int .i64 ac, .int .i64 se, .int .i64 em, .int .i64 de, .int .i64 co, .int .i64 ra], .int .i64 m] w fun e w' => e = .returned (.int .i64 (rearI l m)) ∧ Below w.heap.size w w' := by
  unfold InI at hm
  by_cases h : m < -2147483648
  · go_enter Try.func15, Try.ntmps15
    go_wp2
    go_ret
    exact ⟨ret_int (by unfold rearI; rw [if_pos (by omega)]), (Below.refl _ _).alloc (Nat.le_refl _) _⟩
  · by_cases h2 : m - l < -2147483648
    · go_enter Try.func15, Try.ntmps15
      go_wp2
      go_ret
      exact ⟨ret_int (by unfold rearI; rw [if_pos (by omega)]), (Below.refl _ _).alloc (Nat.le_refl _) _⟩
    · go_enter Try.func15, Try.ntmps15
      go_wp2
      go_ret
      exact ⟨ret_int (by unfold rearI; rw [if_neg (by omega)]), (Below.refl _ _).alloc (Nat.le_refl _) _⟩

theorem beyond_any (id : Int) (nm : ByteArray) (l sp ac se em de co ra : Int) (mi rs mo acc : Int) (wh : Bool) (at_ : Int) (w : World) (hl : 1 ≤ l ∧ l ≤ 50000) (hm : InI mi) :
    Calls Try.prog 16 #[.agg #[.int .i64 id, .string nm, .int .i64 l, .int .i64 sp, .int .i64 ac, .int .i64 se, .int .i64 em, .int .i64 de, .int .i64 co, .int .i64 ra], .agg #[.int .i64 mi, .int .i64 rs, .int .i64 mo, .int .i64 acc, .bool wh], .int .i64 at_] w fun e w' => e = .returned (.bool (beyondB wh l mi at_)) ∧ Below w.heap.size w w' := by
  cases wh
  · go_enter Try.func16, Try.ntmps16
    go_wp2_with fail
    go_ret
    exact ⟨rfl, below_alloc2 _ _ _⟩
  · go_enter Try.func16, Try.ntmps16
    go_wp2_with fail
    refine (rear_any id nm l sp ac se em de co ra mi _ hl hm).mono ?_
    rintro e w' ⟨rfl, hb⟩
    go_wp2_with fail
    go_ret
    exact ⟨ret_bool (by simp [beyondB]), (below_alloc2 _ _ _).trans (hb.mono (by simp; omega))⟩

theorem beyondR_any (id : Int) (nm : ByteArray) (l sp ac se em de co ra : Int) (mi rs mo acc : Int) (wh : Bool) (at_ : Int) (w : World) (hl : 1 ≤ l ∧ l ≤ 50000) (hm : InI mi) :
    Calls Try.prog 17 #[.agg #[.int .i64 id, .string nm, .int .i64 l, .int .i64 sp, .int .i64 ac, .int .i64 se, .int .i64 em, .int .i64 de, .int .i64 co, .int .i64 ra], .agg #[.int .i64 mi, .int .i64 rs, .int .i64 mo, .int .i64 acc, .bool wh], .int .i64 at_] w fun e w' => e = .returned (.bool (beyondB wh l mi at_)) ∧ Below w.heap.size w w' := by
  cases wh
  · go_enter Try.func17, Try.ntmps17
    go_wp2_with fail
    go_ret
    exact ⟨rfl, below_alloc2 _ _ _⟩
  · go_enter Try.func17, Try.ntmps17
    go_wp2_with fail
    refine (rearR_any id nm l sp ac se em de co ra mi _ hl hm).mono ?_
    rintro e w' ⟨rfl, hb⟩
    go_wp2_with fail
    go_ret
    exact ⟨ret_bool (by simp [beyondB]), (below_alloc2 _ _ _).trans (hb.mono (by simp; omega))⟩

def inB (n lo hi : Int) : Bool := decide (lo ≤ n) && decide (n ≤ hi)
theorem in_any (n lo hi : Int) (w : World) :
    Calls Try.prog 20 #[.int .i64 n, .int .i64 lo, .int .i64 hi] w fun e w' => e = .returned (.bool (inB n lo hi)) ∧ w = w' := by
  by_cases h : lo ≤ n
  · go_enter Try.func20, Try.ntmps20
    go_wp2
    go_ret
    exact ⟨ret_bool (by simp [inB, h]), rfl⟩
  · go_enter Try.func20, Try.ntmps20
    go_wp2
    go_ret
    exact ⟨ret_bool (by simp [inB]; omega), rfl⟩

def SomeBool (w : World) (e : Ending) (w' : World) : Prop := ∃ b : Bool, e = .returned (.bool b) ∧ w = w'
set_option maxHeartbeats 400000 in
theorem name_any (s : ByteArray) (w : World) (hs : s.size ≤ maxLen) :
    Calls Try.prog 19 #[.string s] w (SomeBool w) := by
  unfold maxLen at hs
  go_enter Try.func19, Try.ntmps19
  go_wp2
  go_loop [3] (fun i => ∃ k : Nat, k ≤ s.size ∧ i = .int .i64 k) (fun i => s.size - (intOf i).toNat)
  case atStart => exact ⟨0, Nat.zero_le _, rfl⟩
  case round =>
    obtain ⟨k, hk, rfl⟩ := hrel
    by_cases hlt : k < s.size
    · go_wp2
      all_goals first | (go_ret; exact ⟨_, rfl, rfl⟩) | exact ⟨⟨k + 1, by omega, by go_num⟩, by simp [intOf]; omega⟩
    · go_wp2
      all_goals (go_ret; exact ⟨_, rfl, rfl⟩)

theorem in_len (l : Int) (h : inB l 1 50000 = true) : 1 ≤ l ∧ l ≤ 50000 := by
  unfold inB at h; simpa using h
/-- What Check promises that a caller uses: an error number; if it is 0, the length is within its range. -/
def CheckPost (l : Int) (w : World) (e : Ending) (w' : World) : Prop := ∃ n : Int, e = .returned (.int .i64 n) ∧ (n = 0 → 1 ≤ l ∧ l ≤ 50000) ∧ Below w.heap.size w w'

set_option maxHeartbeats 1000000 in
theorem check_any (id : Int) (nm : ByteArray) (l sp ac se em de co ra : Int) (w : World) (hnm : nm.size ≤ maxLen) :
    Calls Try.prog 13 #[.agg #[.int .i64 id, .string nm, .int .i64 l, .int .i64 sp, .int .i64 ac, .int .i64 se, .int .i64 em, .int .i64 de, .int .i64 co, .int .i64 ra]] w (CheckPost l w) := by
  cases h0 : inB id 1 99
  · go_enter Try.func13, Try.ntmps13
    go_wp2_with fail
    refine (name_any nm _ hnm).mono ?_
    rintro e w' ⟨b, rfl, rfl⟩
    cases b
    · go_wp2_with fail
      go_ret
      exact ⟨3, rfl, (fun h => by cases h), (Below.refl _ _).alloc (Nat.le_refl _) _⟩
    · go_wp2_with (go_at_call 20; refine (in_any _ _ _ _).mono ?_; rintro e w' ⟨rfl, rfl⟩)
      go_ret
      exact ⟨1, rfl, (fun h => by cases h), (Below.refl _ _).alloc (Nat.le_refl _) _⟩
  cases h1 : inB l 1 50000
  · go_enter Try.func13, Try.ntmps13
    go_wp2_with fail
    refine (name_any nm _ hnm).mono ?_
    rintro e w' ⟨b, rfl, rfl⟩
    cases b
    · go_wp2_with fail
      go_ret
      exact ⟨3, rfl, (fun h => by cases h), (Below.refl _ _).alloc (Nat.le_refl _) _⟩
    · go_wp2_with (go_at_call 20; refine (in_any _ _ _ _).mono ?_; rintro e w' ⟨rfl, rfl⟩)
      go_ret
      exact ⟨1, rfl, (fun h => by cases h), (Below.refl _ _).alloc (Nat.le_refl _) _⟩
  cases h2 : inB sp 1 10000
  · go_enter Try.func13, Try.ntmps13
    go_wp2_with fail
    refine (name_any nm _ hnm).mono ?_
    rintro e w' ⟨b, rfl, rfl⟩
    cases b
    · go_wp2_with fail
      go_ret
      exact ⟨3, rfl, (fun h => by cases h), (Below.refl _ _).alloc (Nat.le_refl _) _⟩
    · go_wp2_with (go_at_call 20; refine (in_any _ _ _ _).mono ?_; rintro e w' ⟨rfl, rfl⟩)
      go_ret
      exact ⟨1, rfl, (fun h => by cases h), (Below.refl _ _).alloc (Nat.le_refl _) _⟩
  cases h3 : inB ac 1 200
  · go_enter Try.func13, Try.ntmps13
    go_wp2_with fail
    refine (name_any nm _ hnm).mono ?_
    rintro e w' ⟨b, rfl, rfl⟩
    cases b
    · go_wp2_with fail
      go_ret
      exact ⟨3, rfl, (fun h => by cases h), (Below.refl _ _).alloc (Nat.le_refl _) _⟩
    · go_wp2_with (go_at_call 20; refine (in_any _ _ _ _).mono ?_; rintro e w' ⟨rfl, rfl⟩)
      go_ret
      exact ⟨1, rfl, (fun h => by cases h), (Below.refl _ _).alloc (Nat.le_refl _) _⟩
  cases h4 : inB se 1 200
  · go_enter Try.func13, Try.ntmps13
    go_wp2_with fail
    refine (name_any nm _ hnm).mono ?_
    rintro e w' ⟨b, rfl, rfl⟩
    cases b
    · go_wp2_with fail
      go_ret
      exact ⟨3, rfl, (fun h => by cases h), (Below.refl _ _).alloc (Nat.le_refl _) _⟩
    · go_wp2_with (go_at_call 20; refine (in_any _ _ _ _).mono ?_; rintro e w' ⟨rfl, rfl⟩)
      go_ret
      exact ⟨1, rfl, (fun h => by cases h), (Below.refl _ _).alloc (Nat.le_refl _) _⟩
  cases h5 : inB em se 200
  · go_enter Try.func13, Try.ntmps13
    go_wp2_with fail
    refine (name_any nm _ hnm).mono ?_
    rintro e w' ⟨b, rfl, rfl⟩
    cases b
    · go_wp2_with fail
      go_ret
      exact ⟨3, rfl, (fun h => by cases h), (Below.refl _ _).alloc (Nat.le_refl _) _⟩
    · go_wp2_with (go_at_call 20; refine (in_any _ _ _ _).mono ?_; rintro e w' ⟨rfl, rfl⟩)
      go_ret
      exact ⟨1, rfl, (fun h => by cases h), (Below.refl _ _).alloc (Nat.le_refl _) _⟩
  cases h6 : inB de 0 5
  · go_enter Try.func13, Try.ntmps13
    go_wp2_with fail
    refine (name_any nm _ hnm).mono ?_
    rintro e w' ⟨b, rfl, rfl⟩
    cases b
    · go_wp2_with fail
      go_ret
      exact ⟨3, rfl, (fun h => by cases h), (Below.refl _ _).alloc (Nat.le_refl _) _⟩
    · go_wp2_with (go_at_call 20; refine (in_any _ _ _ _).mono ?_; rintro e w' ⟨rfl, rfl⟩)
      go_ret
      exact ⟨1, rfl, (fun h => by cases h), (Below.refl _ _).alloc (Nat.le_refl _) _⟩
  cases h7 : inB co 0 500
  · go_enter Try.func13, Try.ntmps13
    go_wp2_with fail
    refine (name_any nm _ hnm).mono ?_
    rintro e w' ⟨b, rfl, rfl⟩
    cases b
    · go_wp2_with fail
      go_ret
      exact ⟨3, rfl, (fun h => by cases h), (Below.refl _ _).alloc (Nat.le_refl _) _⟩
    · go_wp2_with (go_at_call 20; refine (in_any _ _ _ _).mono ?_; rintro e w' ⟨rfl, rfl⟩)
      go_ret
      exact ⟨1, rfl, (fun h => by cases h), (Below.refl _ _).alloc (Nat.le_refl _) _⟩
  cases h8 : inB ra 0 100
  · go_enter Try.func13, Try.ntmps13
    go_wp2_with fail
    refine (name_any nm _ hnm).mono ?_
    rintro e w' ⟨b, rfl, rfl⟩
    cases b
    · go_wp2_with fail
      go_ret
      exact ⟨3, rfl, (fun h => by cases h), (Below.refl _ _).alloc (Nat.le_refl _) _⟩
    · go_wp2_with (go_at_call 20; refine (in_any _ _ _ _).mono ?_; rintro e w' ⟨rfl, rfl⟩)
      go_ret
      exact ⟨1, rfl, (fun h => by cases h), (Below.refl _ _).alloc (Nat.le_refl _) _⟩
  go_enter Try.func13, Try.ntmps13
  go_wp2_with fail
  refine (name_any nm _ hnm).mono ?_
  rintro e w' ⟨b, rfl, rfl⟩
  cases b
  · go_wp2_with fail
    go_ret
    exact ⟨3, rfl, (fun h => by cases h), (Below.refl _ _).alloc (Nat.le_refl _) _⟩
  · go_wp2_with (go_at_call 20; refine (in_any _ _ _ _).mono ?_; rintro e w' ⟨rfl, rfl⟩)
    go_ret
    exact ⟨0, rfl, (fun _ => in_len l h1), (Below.refl _ _).alloc (Nat.le_refl _) _⟩

end Go.Proofs.Ytilipdcdnckagaa
