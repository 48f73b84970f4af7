/- The reference's For, Push and Fly; fate and Fate: contracts. -/
import Derived.Test.YtgpbfaelhfpbfaaApp
namespace Go.Proofs.Ytgpbfaelhfpbfaa
open Go.RowKit

/-- A slice of ints. -/
def RdI (w : World) (B : Nat) (A : Option Addr) (l : List Int) : Prop :=
  0 < l.length → ∃ b off, A = some ⟨b, off, none⟩ ∧ b < B ∧ ∀ i z, l[i]? = some z → w.cell? ⟨b, off + i, none⟩ = some (.int .i64 z)
section
variable {w w' : World} {B B' : Nat} {A : Option Addr} {l : List Int}
theorem RdI.at_ {k : Nat} (h : RdI w B A l) (hk : k < l.length) : ∃ b off, A = some ⟨b, off, none⟩ ∧ b < B ∧ w.cell? ⟨b, off + k, none⟩ = some (.int .i64 l[k]) := by
  obtain ⟨b, off, e, hb, hc⟩ := h (by omega)
  exact ⟨b, off, e, hb, hc k _ (List.getElem?_eq_getElem hk)⟩
theorem RdI.keep (h : RdI w B A l) (hk : ∀ p : Addr, p.block < B → w'.cell? p = w.cell? p) : RdI w' B A l := fun hn => by
  obtain ⟨b, off, e, hb, hc⟩ := h hn
  exact ⟨b, off, e, hb, fun i p hp => (hk ⟨b, _, none⟩ hb).trans (hc i p hp)⟩
theorem RdI.more (h : RdI w B A l) (hB : B ≤ B') : RdI w B' A l := fun hn => by
  obtain ⟨b, off, e, hb, hc⟩ := h hn
  exact ⟨b, off, e, by omega, hc⟩
theorem RdI.below (h : RdI w B A l) (hb : Below B w w') : RdI w' B A l := h.keep fun _ hp => hb.cell hp
end

/-- The fate of the packet with an index. -/
def fateI (zs : List Int) (i : Nat) : Int := if h : i < zs.length then (if 0 ≤ zs[i] ∧ zs[i] ≤ 3 then zs[i] else 0) else 0
theorem fate_range (zs : List Int) (i : Nat) : 0 ≤ fateI zs i ∧ fateI zs i ≤ 3 := by
  unfold fateI; split
  · split <;> omega
  · omega
theorem fate_out (zs : List Int) (i : Nat) (h : ¬ i < zs.length) : fateI zs i = 0 := by unfold fateI; rw [dif_neg h]
theorem fate_bad (zs : List Int) (i : Nat) (h : i < zs.length) (hz : ¬ (0 ≤ zs[i] ∧ zs[i] ≤ 3)) : fateI zs i = 0 := by unfold fateI; rw [dif_pos h, if_neg hz]
theorem fate_good (zs : List Int) (i : Nat) (h : i < zs.length) (hz : 0 ≤ zs[i] ∧ zs[i] ≤ 3) : fateI zs i = zs[i] := by unfold fateI; rw [dif_pos h, if_pos hz]

set_option maxHeartbeats 1000000 in
theorem fate_any (F : Option Addr) (c : Nat) (zs : List Int) (i : Nat) (w : World) (hF : RdI w w.heap.size F zs) :
    Calls Try.prog 18 #[.slice F zs.length c, .int .i64 i] w fun e w' => e = .returned (.int .i64 (fateI zs i)) ∧ w = w' := by
  have HF := Lib.hid hF
  clear hF
  by_cases hi : i < zs.length
  · obtain ⟨b, off, rfl, hb, hc⟩ := HF.out.at_ hi
    by_cases h0 : 0 ≤ zs[i]
    · by_cases h3 : zs[i] ≤ 3
      · have H := Lib.hid (fate_good zs i hi ⟨h0, h3⟩)
        go_enter Try.func18, Try.ntmps18
        go_wp2
        go_ret
        exact ⟨ret_int H.out.symm, rfl⟩
      · have H := Lib.hid (fate_bad zs i hi (by omega))
        go_enter Try.func18, Try.ntmps18
        go_wp2
        go_ret
        exact ⟨ret_int H.out.symm, rfl⟩
    · have H := Lib.hid (fate_bad zs i hi (by omega))
      go_enter Try.func18, Try.ntmps18
      go_wp2
      go_ret
      exact ⟨ret_int H.out.symm, rfl⟩
  · have H := Lib.hid (fate_out zs i hi)
    go_enter Try.func18, Try.ntmps18
    go_wp2
    go_ret
    exact ⟨ret_int H.out.symm, rfl⟩
set_option maxHeartbeats 1000000 in
theorem fateR_any (F : Option Addr) (c : Nat) (zs : List Int) (i : Nat) (w : World) (hF : RdI w w.heap.size F zs) :
    Calls Try.prog 19 #[.slice F zs.length c, .int .i64 i] w fun e w' => e = .returned (.int .i64 (fateI zs i)) ∧ w = w' := by
  have HF := Lib.hid hF
  clear hF
  by_cases hi : i < zs.length
  · obtain ⟨b, off, rfl, hb, hc⟩ := HF.out.at_ hi
    by_cases h0 : 0 ≤ zs[i]
    · by_cases h3 : zs[i] ≤ 3
      · have H := Lib.hid (fate_good zs i hi ⟨h0, h3⟩)
        go_enter Try.func19, Try.ntmps19
        go_wp2
        go_ret
        exact ⟨ret_int H.out.symm, rfl⟩
      · have H := Lib.hid (fate_bad zs i hi (by omega))
        go_enter Try.func19, Try.ntmps19
        go_wp2
        go_ret
        exact ⟨ret_int H.out.symm, rfl⟩
    · have H := Lib.hid (fate_bad zs i hi (by omega))
      go_enter Try.func19, Try.ntmps19
      go_wp2
      go_ret
      exact ⟨ret_int H.out.symm, rfl⟩
  · have H := Lib.hid (fate_out zs i hi)
    go_enter Try.func19, Try.ntmps19
    go_wp2
    go_ret
    exact ⟨ret_int H.out.symm, rfl⟩

/-- The packets for a receiver. -/
def sel (l : List Pkt) (to : Int) : List Pkt := l.filter fun p => decide (p.t = to)
theorem sel_yes (l : List Pkt) (k : Nat) (to : Int) (h : k < l.length) (he : l[k].t = to) : sel (l.take (k + 1)) to = sel (l.take k) to ++ [l[k]] := by
  rw [take_snoc l k h]; unfold sel; rw [List.filter_append]; simp [he]
theorem sel_no (l : List Pkt) (k : Nat) (to : Int) (h : k < l.length) (he : l[k].t ≠ to) : sel (l.take (k + 1)) to = sel (l.take k) to := by
  rw [take_snoc l k h]; unfold sel; rw [List.filter_append]; simp [he]
theorem sel_le (l : List Pkt) (k : Nat) (to : Int) : (sel (l.take k) to).length ≤ k := Nat.le_trans (List.length_filter_le _ _) (List.length_take_le _ _)
/-- What a function that hands a list back leaves. -/
def Gives (out : List Pkt) (w : World) (e : Ending) (w' : World) : Prop := ∃ v, e = .returned v ∧ Own w' w.heap.size v out ∧ Below w.heap.size w w'
def ForRel (l : List Pkt) (to : Int) (w : World) (v i : Value) (wr : World) : Prop := ∃ k : Nat, k ≤ l.length ∧ i = .int .i64 k ∧ Own wr w.heap.size v (sel (l.take k) to) ∧ Below w.heap.size w wr

set_option maxHeartbeats 1000000 in
theorem forR_any (A : Option Addr) (c : Nat) (l : List Pkt) (to : Int) (w : World) (hl : l.length ≤ 2000) (hA : Rd w w.heap.size A l) :
    Calls Try.prog 17 #[.slice A l.length c, .int .i64 to] w (Gives (sel l to) w) := by
  have HA := Lib.hid hA
  clear hA
  go_enter Try.func17, Try.ntmps17
  go_wp2
  go_loopw [5, 6] (fun v i wr => ForRel l to w v i wr) (fun _ i _ => l.length - (intOf i).toNat)
  case atStart => exact ⟨0, Nat.zero_le _, rfl, Own.nil _ _, Below.refl _ _⟩
  case round =>
    obtain ⟨k, hk, rfl, hown, hb⟩ := hrel
    have hz := hb.size
    by_cases hlt : k < l.length
    · obtain ⟨b, off, rfl, hbb, c0, c1, c2, c3⟩ := (HA.out.below hb).at_ hlt
      by_cases he : l[k].t = to
      · have hs := Lib.hid (sel_yes l k to hlt he)
        have hle := sel_le l k to
        have ht : (l[k].t == to) = true := by simpa using he
        clear he
        go_wp2_with (first | (at_builtin; refine wpList_app _ rfl _ _ rfl w.heap.size _ _ rfl (hown.alloc _) _ _ _ [l[k]] rfl rfl (Rd.one _ _ _ (by simp)) (by simp; omega) (by simp; omega) ?_; intro A' n' c' w1 hn' hown' hgrow hat; clear hn' hat))
        go_roundw
        case rel => exact ⟨k + 1, by omega, by go_num, by rw [hs.out]; exact hown', (hb.alloc hz _).grown hgrow (by simp; omega) (fun j hj => (hown.lt j hj).1)⟩
        case measure => simp [intOf]; omega
      · have hs := Lib.hid (sel_no l k to hlt he)
        have ht : (l[k].t == to) = false := by simpa using he
        clear he
        go_wp2
        go_roundw
        case rel => exact ⟨k + 1, by omega, by go_num, by rw [hs.out]; exact hown, hb⟩
        case measure => simp [intOf]; omega
    · obtain rfl : k = l.length := by omega
      rw [List.take_length] at hown
      go_wp2
      go_ret
      exact ⟨_, rfl, hown, hb⟩

/-- The packets that arrive, of those whose index begins at i. -/
def arrF (zs : List Int) : Nat → List Pkt → List Pkt
  | _, [] => []
  | i, p :: l => (if fateI zs i = 0 ∨ fateI zs i = 3 then [p] else []) ++ arrF zs (i + 1) l
def Pkt.older (p : Pkt) : Pkt := ⟨p.f, p.t, p.a + 1, p.d⟩
/-- Those that remain, a cycle older. -/
def remF (zs : List Int) : Nat → List Pkt → List Pkt
  | _, [] => []
  | i, p :: l => (if 2 ≤ fateI zs i ∧ p.a < 4 then [p.older] else []) ++ remF zs (i + 1) l
theorem arrF_append (zs : List Int) (l m : List Pkt) : ∀ i, arrF zs i (l ++ m) = arrF zs i l ++ arrF zs (i + l.length) m := by
  induction l with
  | nil => intro i; simp [arrF]
  | cons p l ih => intro i; simp only [List.cons_append, arrF, ih, List.append_assoc, List.length_cons]; rw [show i + 1 + l.length = i + (l.length + 1) by omega]
theorem remF_append (zs : List Int) (l m : List Pkt) : ∀ i, remF zs i (l ++ m) = remF zs i l ++ remF zs (i + l.length) m := by
  induction l with
  | nil => intro i; simp [remF]
  | cons p l ih => intro i; simp only [List.cons_append, remF, ih, List.append_assoc, List.length_cons]; rw [show i + 1 + l.length = i + (l.length + 1) by omega]
theorem arrF_snoc (zs : List Int) (l : List Pkt) (k : Nat) (h : k < l.length) : arrF zs 0 (l.take (k + 1)) = arrF zs 0 (l.take k) ++ (if fateI zs k = 0 ∨ fateI zs k = 3 then [l[k]] else []) := by
  rw [take_snoc l k h, arrF_append]
  simp only [List.length_take, Nat.zero_add, arrF, List.append_nil]
  rw [Nat.min_eq_left (by omega)]
theorem remF_snoc (zs : List Int) (l : List Pkt) (k : Nat) (h : k < l.length) : remF zs 0 (l.take (k + 1)) = remF zs 0 (l.take k) ++ (if 2 ≤ fateI zs k ∧ l[k].a < 4 then [l[k].older] else []) := by
  rw [take_snoc l k h, remF_append]
  simp only [List.length_take, Nat.zero_add, remF, List.append_nil]
  rw [Nat.min_eq_left (by omega)]
theorem arrF_len (zs : List Int) (l : List Pkt) : ∀ i, (arrF zs i l).length ≤ l.length := by
  induction l with
  | nil => intro i; simp [arrF]
  | cons p l ih => intro i; have := ih (i + 1); simp only [arrF, List.length_append, List.length_cons]; split <;> simp <;> omega
theorem remF_len (zs : List Int) (l : List Pkt) : ∀ i, (remF zs i l).length ≤ l.length := by
  induction l with
  | nil => intro i; simp [remF]
  | cons p l ih => intro i; have := ih (i + 1); simp only [remF, List.length_append, List.length_cons]; split <;> simp <;> omega
theorem arrF_take_len (zs : List Int) (l : List Pkt) (k : Nat) : (arrF zs 0 (l.take k)).length ≤ k := Nat.le_trans (arrF_len _ _ _) (List.length_take_le _ _)
theorem remF_take_len (zs : List Int) (l : List Pkt) (k : Nat) : (remF zs 0 (l.take k)).length ≤ k := Nat.le_trans (remF_len _ _ _) (List.length_take_le _ _)

/-- Two lists of the call's own, in no common block. -/
def Two (w : World) (base : Nat) (v u : Value) (l m : List Pkt) : Prop := Own w base v l ∧ Own w base u m ∧ (v.ownBlock = none ∨ v.ownBlock ≠ u.ownBlock)
def Gives2 (out out2 : List Pkt) (w : World) (e : Ending) (w' : World) : Prop := ∃ v u, e = .returned (.tuple #[v, u]) ∧ Own w' w.heap.size v out ∧ Own w' w.heap.size u out2 ∧ Below w.heap.size w w'
def FlyRel (l : List Pkt) (zs : List Int) (w : World) (v u i : Value) (wr : World) : Prop :=
  ∃ k : Nat, k ≤ l.length ∧ i = .int .i64 k ∧ Two wr w.heap.size v u (arrF zs 0 (l.take k)) (remF zs 0 (l.take k)) ∧ Below w.heap.size w wr

theorem Two.alloc {w : World} {base : Nat} {v u : Value} {l m : List Pkt} (h : Two w base v u l m) (o : Obj) : Two (w.alloc o) base v u l m := ⟨h.1.alloc o, h.2.1.alloc o, h.2.2⟩
/-- Behind an append onto the first. -/
theorem Two.first {w w' : World} {base : Nat} {v u v' : Value} {l m l' : List Pkt} (h : Two w base v u l m) (hown : Own w' base v' l') (hg : w.grownBy w' v.ownBlock) (hat : v'.ownBlock = v.ownBlock ∨ v'.ownBlock = some w.heap.size) : Two w' base v' u l' m := by
  have hu : u.ownBlock = none ∨ u.ownBlock ≠ v.ownBlock := by
    rcases h.2.2 with e | e
    · rw [e]; cases u.ownBlock <;> simp
    · exact .inr (fun x => e x.symm)
  refine ⟨hown, h.2.1.kept hg hu, ?_⟩
  rcases hat with e | e
  · rw [e]; exact h.2.2
  · refine .inr (fun x => ?_)
    rw [e] at x
    have := (h.2.1.lt _ x.symm).2
    omega
theorem Two.second {w w' : World} {base : Nat} {v u u' : Value} {l m m' : List Pkt} (h : Two w base v u l m) (hown : Own w' base u' m') (hg : w.grownBy w' u.ownBlock) (hat : u'.ownBlock = u.ownBlock ∨ u'.ownBlock = some w.heap.size) : Two w' base v u' l m' := by
  refine ⟨h.1.kept hg h.2.2, hown, ?_⟩
  rcases hat with e | e
  · rw [e]; exact h.2.2
  · cases hv : v.ownBlock with
    | none => exact .inl rfl
    | some g =>
      refine .inr (fun x => ?_)
      rw [e] at x
      injection x with x
      have := (h.1.lt _ hv).2
      omega
end Go.Proofs.Ytgpbfaelhfpbfaa
