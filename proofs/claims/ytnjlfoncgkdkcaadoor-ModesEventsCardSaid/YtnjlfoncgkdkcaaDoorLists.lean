/- Events, Same, has, after: contracts. -/
import Derived.Test.YtnjlfoncgkdkcaaDoorWalks
namespace Go.Proofs.YtnjlfoncgkdkcaaDoor
open Go.RowKit

theorem info3 : (Tryd.prog.info? 3).map (fun i => (i.zero, i.size, i.bytes)) = some (some (.int .i64 0), 1, 8) := by kernel_rfl
/-- append of one int onto a list of the call's own. -/
theorem wpList_iapp (w : World) {ops : Array Oper} {rest : List Oper} {o : Oper} {a : Act} {Q : Exit → Act → World → Prop} (hgd : o.guard = none) (s x : Operand) (ho : o.op = .call { callee := .builtin .append, args := #[s, x], argTypes := #[26, 26] })
    (base : Nat) (v : Value) (l : List Int) (hs : a.eval s = v) (hown : IOwn w base v l) (z : Int) (hx : a.eval x = .slice (some ⟨w.heap.size, 0, none⟩) 1 1) (hlen : l.length ≤ 1000) (hbase : base ≤ w.heap.size)
    (h : ∀ v' w', IOwn w' base v' (l ++ [z]) → (w.alloc (.cells #[.int .i64 z] 3)).grownBy w' v.ownBlock → wpList Tryd.prog ops Q rest (a.put o.dst v') w') : wpList Tryd.prog ops Q (o :: rest) a (w.alloc (.cells #[.int .i64 z] 3)) := by
  obtain ⟨i0, hi, hz0, hz1, hz2⟩ := info_parts info3
  refine wpList_append_own_at _ hgd s x 26 ho base 3 i0 (.int .i64 0) 1 8 Tryd.underlying26 hi hz0 hz1 hz2 rfl (by decide) v l.length _ hs (World.ownsRow.alloc hown _) ⟨w.heap.size, 0, none⟩ 1 1 [.int .i64 z] hx rfl (cell_one_new _ _ _) (by simp [Value.oneCell']) (by unfold maxLen; omega) (by omega) (by simp; omega) ?_
  intro v' w' hown' hg _ _
  exact h v' w' (by unfold IOwn; simpa using hown') hg

def IGives (out : List Int) (w : World) (e : Ending) (w' : World) : Prop := ∃ A c, e = .returned (.slice A out.length c) ∧ RdI w' w'.heap.size A out ∧ Below w.heap.size w w'
def EvRel (m : Int) (w : World) (v i : Value) (wr : World) : Prop := ∃ j : Nat, j ≤ 7 ∧ i = .int .i64 ((j : Int) + 1) ∧ IOwn wr w.heap.size v (evTo m j) ∧ Below w.heap.size w wr
theorem ev_yes (m : Int) (j : Nat) (h : nextF m ((j : Int) + 1) ≠ 0) : evTo m (j + 1) = evTo m j ++ [(j : Int) + 1] := by rw [evTo, if_pos h]
theorem ev_no (m : Int) (j : Nat) (h : nextF m ((j : Int) + 1) = 0) : evTo m (j + 1) = evTo m j := by rw [evTo, if_neg (by simpa using h), List.append_nil]
theorem own_lt {w : World} {base : Nat} {v : Value} {l : List Int} (h : IOwn w base v l) : ∀ k, v.ownBlock = some k → base ≤ k ∧ k < w.heap.size := World.ownsRow.lt h

set_option maxHeartbeats 2000000 in
theorem events_any (m : Int) (w : World) (hT : Tabs w) : Calls Tryd.prog 11 #[.int .i64 m] w (IGives (evL m) w) := by
  have HT := Lib.hid hT
  clear hT
  go_enter Tryd.func11, Tryd.ntmps11
  go_wp2
  go_loopw [3, 4] (fun v i wr => EvRel m w v i wr) (fun _ i _ => 8 - (intOf i).toNat)
  case atStart => exact ⟨0, by omega, rfl, IOwn.nil _ _, Below.refl _ _⟩
  case round =>
    obtain ⟨j, hj, rfl, hown, hb⟩ := hrel
    have hz := hb.size
    have hl := evTo_len m j
    by_cases hlt : j < 7
    · go_wp2_with fail
      refine (next_any m ((j : Int) + 1) _ (HT.out.below hb)).mono ?_
      rintro e w' ⟨rfl, rfl⟩
      by_cases hn : nextF m ((j : Int) + 1) = 0
      · have he := Lib.hid (ev_no m j hn)
        rw [hn]
        clear hn
        go_wp2
        go_roundw
        case rel => exact ⟨j + 1, by omega, by go_num, by rw [he.out]; exact hown, hb⟩
        case measure => simp [intOf]; omega
      · have he := Lib.hid (ev_yes m j hn)
        have hnb : (nextF m ((j : Int) + 1) != 0) = true := by simpa using hn
        rw [hnb]
        obtain ⟨v, hv⟩ : ∃ v, nextF m ((j : Int) + 1) = v := ⟨_, rfl⟩
        rw [hv]
        clear hv hn hnb
        go_wp2_with (first | (at_builtin; refine wpList_iapp _ rfl _ _ rfl w.heap.size _ _ rfl hown _ rfl (by omega) hz ?_; intro v' w1 hown' hgrow))
        go_roundw
        case rel => exact ⟨j + 1, by omega, by go_num, by rw [he.out]; exact hown', (hb.alloc hz _).grown hgrow (by simp; omega) (fun k hk => (own_lt hown k hk).1)⟩
        case measure => simp [intOf]; omega
    · obtain rfl : j = 7 := by omega
      obtain ⟨A, c, rfl⟩ := hown.slice
      go_wp2
      go_ret
      exact ⟨A, c, rfl, hown.rd, hb⟩
set_option maxHeartbeats 2000000 in
theorem eventsR_any (m : Int) (w : World) : Calls Tryd.prog 13 #[.int .i64 m] w (IGives (evL m) w) := by
  go_enter Tryd.func13, Tryd.ntmps13
  go_wp2
  go_loopw [3, 4] (fun v i wr => EvRel m w v i wr) (fun _ i _ => 8 - (intOf i).toNat)
  case atStart => exact ⟨0, by omega, rfl, IOwn.nil _ _, Below.refl _ _⟩
  case round =>
    obtain ⟨j, hj, rfl, hown, hb⟩ := hrel
    have hz := hb.size
    have hl := evTo_len m j
    by_cases hlt : j < 7
    · go_wp2_with fail
      refine (nextR0_any m ((j : Int) + 1) _).mono ?_
      rintro e w' ⟨rfl, rfl⟩
      by_cases hn : nextF m ((j : Int) + 1) = 0
      · have he := Lib.hid (ev_no m j hn)
        rw [hn]
        clear hn
        go_wp2
        go_roundw
        case rel => exact ⟨j + 1, by omega, by go_num, by rw [he.out]; exact hown, hb⟩
        case measure => simp [intOf]; omega
      · have he := Lib.hid (ev_yes m j hn)
        have hnb : (nextF m ((j : Int) + 1) != 0) = true := by simpa using hn
        obtain ⟨v, hv⟩ : ∃ v, nextF m ((j : Int) + 1) = v := ⟨_, rfl⟩
        rw [hv]
        rw [hv] at hnb
        clear hv hn
        go_wp2_with (first | (at_builtin; refine wpList_iapp _ rfl _ _ rfl w.heap.size _ _ rfl hown _ rfl (by omega) hz ?_; intro v' w1 hown' hgrow))
        go_roundw
        case rel => exact ⟨j + 1, by omega, by go_num, by rw [he.out]; exact hown', (hb.alloc hz _).grown hgrow (by simp; omega) (fun k hk => (own_lt hown k hk).1)⟩
        case measure => simp [intOf]; omega
    · obtain rfl : j = 7 := by omega
      obtain ⟨A, c, rfl⟩ := hown.slice
      go_wp2
      go_ret
      exact ⟨A, c, rfl, hown.rd, hb⟩

def ISameRel (l m : List Int) (w : World) (i : Value) (wr : World) : Prop := ∃ k : Nat, k ≤ l.length ∧ i = .int .i64 k ∧ l.take k = m.take k ∧ ∃ n, wr = w.drewN n
/-- Same of two lists that are one. -/
theorem same_self (A A' : Option Addr) (n n' c c' : Nat) (l : List Int) (w : World) (hn : l.length = n) (hn' : l.length = n') (hl : l.length ≤ 1000) (hA : RdI w w.heap.size A l) (hA' : RdI w w.heap.size A' l) :
    Calls Tryd.prog 12 #[.slice A n c, .slice A' n' c'] w fun e w' => e = .returned (.bool true) ∧ Below w.heap.size w w' := by
  subst hn hn'
  have HA := Lib.hid hA
  have HA' := Lib.hid hA'
  clear hA hA'
  go_enter Tryd.func12, Tryd.ntmps12
  go_wp2
  go_loopw [5] (fun i wr => ISameRel l l w i wr) (fun i _ => l.length - (intOf i).toNat)
  case atStart => exact ⟨0, Nat.zero_le _, rfl, rfl, 0, rfl⟩
  case round =>
    obtain ⟨k, hk, rfl, _, n, rfl⟩ := hrel
    by_cases hlt : k < l.length
    · obtain ⟨b, off, rfl, hbb, c0⟩ := HA.out.at_ hlt
      obtain ⟨b', off', rfl, hbb', d0⟩ := HA'.out.at_ hlt
      have i0 : (0 : Int) ≤ (k : Int) := by omega
      have i1 : (k : Int) < (l.length : Int) := by omega
      go_wp2
      go_quiet (fail)
      go_wp2
      go_roundw
      case rel => exact ⟨k + 1, by omega, by go_num, rfl, _, rfl⟩
      case measure => simp [intOf]; omega
    · go_wp2
      go_ret
      exact ⟨rfl, ⟨rfl, rfl, rfl, Nat.le_refl _, fun _ _ => rfl⟩⟩

def HasRel (l : List Int) (z : Int) (i : Value) : Prop := ∃ k : Nat, k ≤ l.length ∧ i = .int .i64 k ∧ (l.take k).contains z = false
theorem has_step (l : List Int) (k : Nat) (z : Int) (h : k < l.length) (hc : (l.take k).contains z = false) (hz : l[k] ≠ z) : (l.take (k + 1)).contains z = false := by
  rw [take_snoc l k h, List.contains_eq_any_beq, List.any_append, ← List.contains_eq_any_beq, hc]; simp; exact fun e => hz e.symm
theorem has_hit (l : List Int) (k : Nat) (z : Int) (h : k < l.length) (hz : l[k] = z) : l.contains z = true := by
  rw [List.contains_iff_mem, ← hz]; exact List.getElem_mem h
def hasB (l : List Int) (z : Int) : Bool := l.contains z
theorem has_any (A : Option Addr) (c : Nat) (l : List Int) (z : Int) (w : World) (hl : l.length ≤ maxLen) (hA : RdI w w.heap.size A l) :
    Calls Tryd.prog 18 #[.slice A l.length c, .int .i64 z] w fun e w' => e = .returned (.bool (hasB l z)) ∧ w = w' := by
  unfold maxLen at hl
  have HA := Lib.hid hA
  clear hA
  go_enter Tryd.func18, Tryd.ntmps18
  go_wp2
  go_loop [5] (fun i => HasRel l z i) (fun i => l.length - (intOf i).toNat)
  case atStart => exact ⟨0, Nat.zero_le _, rfl, rfl⟩
  case round =>
    obtain ⟨k, hk, rfl, hc⟩ := hrel
    have HC := Lib.hid hc
    clear hc
    by_cases hlt : k < l.length
    · obtain ⟨b, off, rfl, hbb, c0⟩ := HA.out.at_ hlt
      by_cases he : l[k] = z
      · have H := Lib.hid (has_hit l k z hlt he)
        have hb : (l[k] == z) = true := by simpa using he
        clear he
        go_wp2
        go_ret
        exact ⟨ret_bool H.out.symm, rfl⟩
      · have H := Lib.hid (has_step l k z hlt HC.out he)
        have hb : (l[k] == z) = false := by simpa using he
        clear he
        go_wp2
        go_round
        case rel => exact ⟨k + 1, by omega, by go_num, H.out⟩
        case measure => simp [intOf]; omega
    · obtain rfl : k = l.length := by omega
      go_wp2
      go_ret
      exact ⟨ret_bool (by have := HC.out; rw [List.take_length] at this; exact this.symm), rfl⟩

/-- The mode after events. -/
def stepF (m e : Int) : Int := if nextF m e ≠ 0 then nextF m e else m
def afterF (m : Int) (l : List Int) : Int := l.foldl stepF m
theorem after_snoc (m : Int) (l : List Int) (k : Nat) (h : k < l.length) : afterF m (l.take (k + 1)) = stepF (afterF m (l.take k)) l[k] := by
  rw [take_snoc l k h]; unfold afterF; rw [List.foldl_append]; rfl
def AfterRel (m : Int) (l : List Int) (u i : Value) : Prop := ∃ k : Nat, k ≤ l.length ∧ i = .int .i64 k ∧ u = .int .i64 (afterF m (l.take k))
theorem after_any (m : Int) (A : Option Addr) (n c : Nat) (l : List Int) (w : World) (hn : l.length = n) (hl : l.length ≤ 1000) (hT : Tabs w) (hA : RdI w w.heap.size A l) :
    Calls Tryd.prog 19 #[.int .i64 m, .slice A n c] w fun e w' => e = .returned (.int .i64 (afterF m l)) ∧ w = w' := by
  subst hn
  have HA := Lib.hid hA
  have HT := Lib.hid hT
  clear hA hT
  go_enter Tryd.func19, Tryd.ntmps19
  go_wp2
  go_loop [0, 5] (fun u i => AfterRel m l u i) (fun _ i => l.length - (intOf i).toNat)
  case atStart => exact ⟨0, Nat.zero_le _, rfl, rfl⟩
  case round =>
    obtain ⟨k, hk, rfl, rfl⟩ := hrel
    obtain ⟨mk, hmk⟩ : ∃ mk, afterF m (l.take k) = mk := ⟨_, rfl⟩
    rw [hmk]
    have HMK := Lib.hid hmk
    clear hmk
    by_cases hlt : k < l.length
    · obtain ⟨b, off, rfl, hbb, c0⟩ := HA.out.at_ hlt
      have hs := Lib.hid (after_snoc m l k hlt)
      go_wp2_with fail
      refine (next_any mk l[k] _ HT.out).mono ?_
      rintro e w' ⟨rfl, rfl⟩
      by_cases hn : nextF mk l[k] = 0
      · have hst : Hid (stepF mk l[k] = mk) := by show stepF mk l[k] = mk; unfold stepF; rw [hn]; rfl
        rw [hn]
        clear hn
        go_wp2
        go_round
        case rel => exact ⟨k + 1, by omega, by go_num, by rw [hs.out, HMK.out, hst.out]⟩
        case measure => simp [intOf]; omega
      · have hst : Hid (stepF mk l[k] = nextF mk l[k]) := by show stepF mk l[k] = nextF mk l[k]; unfold stepF; rw [if_pos hn]
        have hnb : (nextF mk l[k] != 0) = true := by simpa using hn
        rw [hnb]
        obtain ⟨v, hv⟩ : ∃ v, nextF mk l[k] = v := ⟨_, rfl⟩
        rw [hv]
        rw [hv] at hst
        clear hv hn hnb
        go_wp2
        go_round
        case rel => exact ⟨k + 1, by omega, by go_num, by rw [hs.out, HMK.out, hst.out]⟩
        case measure => simp [intOf]; omega
    · obtain rfl : k = l.length := by omega
      go_wp2
      go_ret
      exact ⟨ret_int (by have := HMK.out; rw [List.take_length] at this; exact this.symm), rfl⟩
end Go.Proofs.YtnjlfoncgkdkcaaDoor
