/- The walk of AirConserves. -/
import Derived.Test.YtgpbfaelhfpbfaaFliesW
import Derived.Deep.DeepCutAuto
namespace Go.Proofs.Ytgpbfaelhfpbfaa
open Go.RowKit

/-- Those whose fate says that they stay, whatever their age. -/
def stayF (zs : List Int) : Nat → List Pkt → List Pkt
  | _, [] => []
  | i, p :: l => (if 2 ≤ fateI zs i then [p] else []) ++ stayF zs (i + 1) l
theorem stayF_append (zs : List Int) (l m : List Pkt) : ∀ i, stayF zs i (l ++ m) = stayF zs i l ++ stayF zs (i + l.length) m := by
  induction l with
  | nil => intro i; simp [stayF]
  | cons p l ih => intro i; simp only [List.cons_append, stayF, ih, List.append_assoc, List.length_cons]; rw [show i + 1 + l.length = i + (l.length + 1) by omega]
theorem stayF_snoc (zs : List Int) (l : List Pkt) (k : Nat) (h : k < l.length) : stayF zs 0 (l.take (k + 1)) = stayF zs 0 (l.take k) ++ (if 2 ≤ fateI zs k then [l[k]] else []) := by
  rw [take_snoc l k h, stayF_append]
  simp only [List.length_take, Nat.zero_add, stayF, List.append_nil]
  rw [Nat.min_eq_left (by omega)]
theorem stayF_len (zs : List Int) (l : List Pkt) : ∀ i, (stayF zs i l).length ≤ l.length := by
  induction l with
  | nil => intro i; simp [stayF]
  | cons p l ih => intro i; have := ih (i + 1); simp only [stayF, List.length_append, List.length_cons]; split <;> simp <;> omega
theorem cnt_app (l m : List Pkt) (p : Pkt) : cnt (l ++ m) p = cnt l p + cnt m p := by unfold cnt; rw [List.filter_append, List.length_append]
theorem cnt_nil (p : Pkt) : cnt [] p = 0 := rfl
theorem cnt_one_yes {q p : Pkt} (h : pktEq q p = true) : cnt [q] p = 1 := by unfold cnt; simp [h]
theorem cnt_one_no {q p : Pkt} (h : pktEq q p = false) : cnt [q] p = 0 := by unfold cnt; simp [h]
theorem older_eq (q p : Pkt) : pktEq q.older p.older = pktEq q p := by
  unfold pktEq Pkt.older
  simp only [Int.add_left_inj]
theorem stay_cnt (zs : List Int) (p : Pkt) (hp : p.a < 4) (l : List Pkt) : ∀ i, cnt (remF zs i l) p.older = cnt (stayF zs i l) p := by
  induction l with
  | nil => intro i; rfl
  | cons q l ih =>
    intro i
    simp only [remF, stayF, cnt_app, ih]
    congr 1
    by_cases hf : 2 ≤ fateI zs i
    · rw [if_pos hf]
      by_cases h4 : q.a < 4
      · rw [if_pos ⟨hf, h4⟩]
        cases h : pktEq q p
        · rw [cnt_one_no h, cnt_one_no ((older_eq q p).trans h)]
        · rw [cnt_one_yes h, cnt_one_yes ((older_eq q p).trans h)]
      · rw [if_neg (fun h => h4 h.2)]
        cases h : pktEq q p
        · rw [cnt_one_no h, cnt_nil]
        · exact absurd hp ((pktEq_iff q p).1 h ▸ h4)
    · rw [if_neg hf, if_neg (fun h => hf h.1)]; rfl
section
variable (zs : List Int) (l : List Pkt) (p : Pkt) (k : Nat) (h : k < l.length)
include h
theorem here_other (he : pktEq l[k] p = false) : cnt (arrF zs 0 (l.take (k + 1))) p = cnt (arrF zs 0 (l.take k)) p := by
  rw [arrF_snoc zs l k h, cnt_app]; split
  · rw [cnt_one_no he]; rfl
  · rfl
theorem there_other (he : pktEq l[k] p = false) : cnt (stayF zs 0 (l.take (k + 1))) p = cnt (stayF zs 0 (l.take k)) p := by
  rw [stayF_snoc zs l k h, cnt_app]; split
  · rw [cnt_one_no he]; rfl
  · rfl
theorem here_yes (he : pktEq l[k] p = true) (hf : fateI zs k = 0 ∨ fateI zs k = 3) : cnt (arrF zs 0 (l.take (k + 1))) p = cnt (arrF zs 0 (l.take k)) p + 1 := by
  rw [arrF_snoc zs l k h, cnt_app, if_pos hf, cnt_one_yes he]
theorem here_no (hf : ¬ (fateI zs k = 0 ∨ fateI zs k = 3)) : cnt (arrF zs 0 (l.take (k + 1))) p = cnt (arrF zs 0 (l.take k)) p := by
  rw [arrF_snoc zs l k h, cnt_app, if_neg hf, cnt_nil]; rfl
theorem there_yes (he : pktEq l[k] p = true) (hf : 2 ≤ fateI zs k) : cnt (stayF zs 0 (l.take (k + 1))) p = cnt (stayF zs 0 (l.take k)) p + 1 := by
  rw [stayF_snoc zs l k h, cnt_app, if_pos hf, cnt_one_yes he]
theorem there_no (hf : ¬ 2 ≤ fateI zs k) : cnt (stayF zs 0 (l.take (k + 1))) p = cnt (stayF zs 0 (l.take k)) p := by
  rw [stayF_snoc zs l k h, cnt_app, if_neg hf, cnt_nil]; rfl
theorem tot_yes (hf : fateI zs k = 0 ∨ fateI zs k = 3) : (arrF zs 0 (l.take (k + 1))).length = (arrF zs 0 (l.take k)).length + 1 := by
  rw [arrF_snoc zs l k h, if_pos hf]; simp
theorem tot_no (hf : ¬ (fateI zs k = 0 ∨ fateI zs k = 3)) : (arrF zs 0 (l.take (k + 1))).length = (arrF zs 0 (l.take k)).length := by
  rw [arrF_snoc zs l k h, if_neg hf]; simp
end
theorem here_le (zs : List Int) (l : List Pkt) (p : Pkt) (k : Nat) : cnt (arrF zs 0 (l.take k)) p ≤ k := Nat.le_trans (cnt_le _ _) (arrF_take_len zs l k)
theorem there_le (zs : List Int) (l : List Pkt) (p : Pkt) (k : Nat) : cnt (stayF zs 0 (l.take k)) p ≤ k := Nat.le_trans (cnt_le _ _) (Nat.le_trans (stayF_len zs _ 0) (List.length_take_le _ _))
theorem count_n (A : Option Addr) (n c H : Nat) (l : List Pkt) (p : Pkt) (w : World) (hn : l.length = n) (hH : cnt l p = H) (hl : n ≤ 2000) (hA : Rd w w.heap.size A l) :
    Calls Try.prog 12 #[.slice A n c, .agg #[.int .i64 p.f, .int .i64 p.t, .int .i64 p.a, .string p.d]] w fun e w' => e = .returned (.int .i64 (H : Int)) ∧ Below w.heap.size w w' := by
  subst hn hH; exact count_any A c l p w (by unfold maxLen; omega) hA

def ConsRel (a : List Pkt) (zs : List Int) (w : World) (t i : Value) (wr : World) : Prop :=
  ∃ k s : Nat, k ≤ a.length ∧ s ≤ k ∧ i = .int .i64 k ∧ t = .int .i64 s ∧ (arrF zs 0 (a.take k)).length = s ∧ Below w.heap.size w wr
def OneRel (a : List Pkt) (zs : List Int) (p : Pkt) (g : Nat) (w : World) (h t i : Value) (wr : World) : Prop :=
  ∃ k x y : Nat, k ≤ a.length ∧ x ≤ k ∧ y ≤ k ∧ i = .int .i64 k ∧ h = .int .i64 x ∧ t = .int .i64 y ∧ cnt (arrF zs 0 (a.take k)) p = x ∧ cnt (stayF zs 0 (a.take k)) p = y ∧ HasPkt wr g p ∧ g < wr.heap.size ∧ Below w.heap.size w wr

def goodB (zs : List Int) (k : Nat) : Bool := if h : k < zs.length then decide (0 ≤ zs[k]) && decide (zs[k] ≤ 3) else false
theorem good_out (zs : List Int) (k : Nat) (h : ¬ k < zs.length) : goodB zs k = false := by unfold goodB; rw [dif_neg h]
theorem good_in (zs : List Int) (k : Nat) (h : k < zs.length) : goodB zs k = (decide (0 ≤ zs[k]) && decide (zs[k] ≤ 3)) := by unfold goodB; rw [dif_pos h]
theorem good_yes {zs : List Int} {k : Nat} (h : goodB zs k = true) : ∃ hk : k < zs.length, fateI zs k = zs[k] := by
  by_cases hk : k < zs.length
  · rw [good_in zs k hk] at h; simp at h; exact ⟨hk, fate_good zs k hk h⟩
  · rw [good_out zs k hk] at h; cases h
theorem good_no {zs : List Int} {k : Nat} (h : goodB zs k = false) : fateI zs k = 0 := by
  by_cases hk : k < zs.length
  · rw [good_in zs k hk] at h; exact fate_bad zs k hk (by simp at h; omega)
  · exact fate_out zs k hk
def arrB (zs : List Int) (k : Nat) : Bool := decide (fateI zs k = 0 ∨ fateI zs k = 3)
theorem bool_03 (x : Int) : decide (x = 0 ∨ x = 3) = (x == 0 || x == 3) := by
  rw [Bool.decide_or]; rfl
def Box2 (w : World) (g : Nat) (p : Pkt) (h : Nat) (q : Pkt) (wx : World) : Prop := HasPkt wx g p ∧ HasPkt wx h q ∧ g < wx.heap.size ∧ h < wx.heap.size ∧ Below w.heap.size w wx
theorem Box2.new {w wo : World} {g : Nat} {p : Pkt} (q : Pkt) (hp : HasPkt wo g p) (hg : g < wo.heap.size) (h : Below w.heap.size w wo) : Box2 w g p wo.heap.size q (wo.alloc (.cells #[.int .i64 q.f, .int .i64 q.t, .int .i64 q.a, .string q.d] 28)) :=
  ⟨hp.alloc hg _, ⟨by simp, by simp, by simp, by simp⟩, by simp; omega, by simp, h.alloc h.size _⟩
def Box (w : World) (g : Nat) (p : Pkt) (wx : World) : Prop := HasPkt wx g p ∧ g < wx.heap.size ∧ Below w.heap.size w wx
theorem Box.new {w wo : World} (p : Pkt) (h : Below w.heap.size w wo) : Box w wo.heap.size p (wo.alloc (.cells #[.int .i64 p.f, .int .i64 p.t, .int .i64 p.a, .string p.d] 28)) :=
  ⟨⟨by simp, by simp, by simp, by simp⟩, by simp, h.alloc h.size _⟩

set_option maxHeartbeats 16000000 in
set_option maxRecDepth 100000 in
theorem conserves_walk (A F : Option Addr) (n f c g : Nat) (a : List Pkt) (zs : List Int) (w : World) (hn : a.length = n) (hf : zs.length = f) (ha : n ≤ maxLen) (oka : ∀ p ∈ a, p.Ok) (hA : Rd w w.heap.size A a) (hF : RdI w w.heap.size F zs) :
    Calls Try.prog 6 #[.slice A n c, .slice F f g] w fun e w' => e = .returned (.bool true) ∧ Below w.heap.size w w' := by
  have HA := Lib.hid hA
  have HF := Lib.hid hF
  have OA := Lib.hid oka
  have HLA := Lib.hid ha
  have Hn := Lib.hid hn
  have Hf := Lib.hid hf
  clear hA hF oka ha hn hf
  go_enter Try.func6, Try.ntmps6
  go_wp2_with fail
  refine (few_n A n c a _ Hn.out HLA.out HA.out).mono ?_
  rintro e w1 ⟨rfl, B1⟩
  cases hfa : fewB a
  · go_wp2_with fail
    refine (alive_any _).mono ?_
    rintro e w2 ⟨rfl, hb2⟩
    go_wp2_with fail
    go_ret
    exact ⟨rfl, carry B1 hb2⟩
  clear hfa
  by_cases ha : n ≤ 100
  case neg =>
    have ha' : (100 : Int) < (n : Int) := by omega
    clear ha
    go_wp2_with fail
    refine (alive_any _).mono ?_
    rintro e w2 ⟨rfl, hb2⟩
    go_wp2_with fail
    go_ret
    exact ⟨rfl, carry B1 hb2⟩
  go_wp2_with fail
  refine (fly_n A F n f c g a zs _ Hn.out Hf.out (by omega) OA.out (HA.out.at_world B1) (HF.out.at_world B1)).mono ?_
  rintro e w3 ⟨X, x, xc, Y, y, yc, rfl, hx, hy, rx, ry, hb3⟩
  have B3 := Lib.hid (carry B1 hb3)
  have RX := Lib.hid rx
  have RY := Lib.hid ry
  have Hx := Lib.hid hx
  have Hy := Lib.hid hy
  have hx1 : x ≤ n := by rw [← hx, ← Hn.out]; exact arrF_len zs a 0
  have hy1 : y ≤ n := by rw [← hy, ← Hn.out]; exact remF_len zs a 0
  have HA3 := Lib.hid (HA.out.at_world B3.out)
  have HF3 := Lib.hid (HF.out.at_world B3.out)
  clear hb3 B1 rx ry hx hy HA HF
  go_wp2_with fail
  go_loopw [7, 34] (fun t i wr => ConsRel a zs w3 t i wr) (fun _ i _ => n - (intOf i).toNat)
  case atStart => exact ⟨0, 0, Nat.zero_le _, Nat.le_refl _, rfl, rfl, by simp [arrF], Below.refl _ _⟩
  case round =>
    obtain ⟨k, s, hk, hs, rfl, rfl, hsum, hbel⟩ := hrel
    rw [Hn.out] at hk
    have Hsum := Lib.hid hsum
    clear hsum
    have hz := hbel.size
    obtain ⟨wo, rfl⟩ : ∃ wo : World, wo = wr := ⟨_, rfl⟩
    by_cases hlt : k < n
    · have hlt' : k < a.length := by rw [Hn.out]; exact hlt
      obtain ⟨xb, xo, rfl, hxb, c0, c1, c2, c3⟩ := (HA3.out.below hbel).at_ hlt'
      go_upto_region 9 with fail
      clear c0 c1 c2 c3
      have BX := Lib.hid (Box.new a[k] hbel)
      go_cut [56] (fun s56 wx => s56 = .bool (goodB zs k) ∧ Box w3 wo.heap.size a[k] wx)
      case first =>
        by_cases hi : k < f
        · have hi' : k < zs.length := by rw [Hf.out]; exact hi
          obtain ⟨fb, fo, rfl, hfb, hc⟩ := (HF3.out.below BX.out.2.2).at_ hi'
          have HG := Lib.hid (good_in zs k hi')
          by_cases h0 : 0 ≤ zs[k]
          · have e0 : decide (0 ≤ zs[k]) = true := decide_eq_true h0
            go_wp2_with fail
            go_meet
            refine ⟨?_, BX.out⟩
            rw [HG.out]; simp [h0]
          · go_wp2_with fail
            go_meet
            refine ⟨?_, BX.out⟩
            rw [HG.out]; simp; omega
        · have HG := Lib.hid (good_out zs k (by rw [Hf.out]; exact hi))
          go_wp2_with fail
          go_meet
          refine ⟨?_, BX.out⟩
          rw [HG.out]
      case rest =>
        obtain ⟨rfl, BX1⟩ := hcut
        have HB1 := Lib.hid BX1
        clear BX BX1
        obtain ⟨gb, Hgb⟩ : ∃ b, Hid (goodB zs k = b) := ⟨_, rfl⟩
        rw [Hgb.out]
        go_upto_if 56 with fail
        go_cut [10] (fun s10 wx => s10 = .int .i64 (fateI zs k) ∧ Box w3 wo.heap.size a[k] wx)
        case first =>
          cases gb
          · have HG := Lib.hid (good_no Hgb.out)
            go_wp2_with fail
            go_meet
            refine ⟨?_, HB1.out⟩
            rw [HG.out]
          · obtain ⟨hi', hG⟩ := good_yes Hgb.out
            have HG := Lib.hid hG
            clear hG
            have hi : k < f := by rw [← Hf.out]; exact hi'
            obtain ⟨fb, fo, rfl, hfb, hc⟩ := (HF3.out.below HB1.out.2.2).at_ hi'
            go_wp2_with fail
            go_meet
            refine ⟨?_, HB1.out⟩
            rw [HG.out]
        case rest =>
          obtain ⟨rfl, BX2⟩ := hcut
          have HB2 := Lib.hid BX2
          clear BX2 HB1 Hgb
          obtain ⟨fk, Hfk⟩ : ∃ x, Hid (fateI zs k = x) := ⟨_, rfl⟩
          rw [Hfk.out]
          have hr : 0 ≤ fk ∧ fk ≤ 3 := by rw [← Hfk.out]; exact fate_range zs k
          go_upto_region 11 with fail
          go_cut [66] (fun s66 wx => s66 = .bool (decide (fk = 0 ∨ fk = 3)) ∧ Box w3 wo.heap.size a[k] wx)
          case first =>
            by_cases h0 : fk = 0
            · subst h0
              go_wp2_with fail
              go_meet
              exact ⟨by simp, HB2.out⟩
            · go_wp2_with fail
              go_meet
              exact ⟨by rw [bool_03 fk], HB2.out⟩
          case rest =>
            obtain ⟨rfl, BX3⟩ := hcut
            have HB3 := Lib.hid BX3
            clear BX3 HB2
            obtain ⟨tb, Htb⟩ : ∃ b, Hid (decide (fk = 0 ∨ fk = 3) = b) := ⟨_, rfl⟩
            rw [Htb.out]
            go_upto_if 66 with fail
            go_cut [7] (fun s7 wx => ∃ s' : Nat, s7 = .int .i64 s' ∧ s' ≤ k + 1 ∧ (arrF zs 0 (a.take (k + 1))).length = s' ∧ Box w3 wo.heap.size a[k] wx)
            case first =>
              cases tb
              · have HT := Lib.hid (tot_no zs a k hlt' (by rw [Hfk.out]; exact of_decide_eq_false Htb.out))
                go_wp2_with fail
                go_meet
                exact ⟨s, rfl, by omega, by rw [HT.out, Hsum.out], HB3.out⟩
              · have HT := Lib.hid (tot_yes zs a k hlt' (by rw [Hfk.out]; exact of_decide_eq_true Htb.out))
                go_wp2_with fail
                go_meet
                exact ⟨s + 1, by go_num, by omega, by rw [HT.out, Hsum.out], HB3.out⟩
            case rest =>
              obtain ⟨s', rfl, hs', hsum', BX4⟩ := hcut
              have Hsum' := Lib.hid hsum'
              have HB4 := Lib.hid BX4
              clear hsum' BX4 HB3 Htb Hfk Hsum hs hr hbel
              go_wp2_with fail
              go_loopw [11, 12, 71] (fun h t i wr => OneRel a zs a[k] wo.heap.size w3 h t i wr) (fun _ _ i _ => n - (intOf i).toNat)
              case atStart => exact ⟨0, 0, 0, Nat.zero_le _, Nat.le_refl _, Nat.le_refl _, rfl, rfl, rfl, by simp [arrF, cnt_nil], by simp [stayF, cnt_nil], HB4.out.1, HB4.out.2.1, HB4.out.2.2⟩
              case round =>
                clear HB4
                obtain ⟨j, u, v, hj, hu, hv, rfl, rfl, rfl, hH, hT, hbox, hgs, hbl⟩ := hrel
                rw [Hn.out] at hj
                have HH := Lib.hid hH
                have HT := Lib.hid hT
                clear hH hT
                have hzl := hbl.size
                obtain ⟨wi, rfl⟩ : ∃ wi : World, wi = wr := ⟨_, rfl⟩
                by_cases hjl : j < n
                · have hjl' : j < a.length := by rw [Hn.out]; exact hjl
                  obtain ⟨yb, yo, hyo, hyb, c0, c1, c2, c3⟩ := (HA3.out.below hbl).at_ hjl'
                  injection hyo with hyo
                  injection hyo with hyo1 hyo2 hyo3
                  subst hyo1 hyo2
                  clear hyo3
                  go_upto_region 18 with fail
                  clear c0 c1 c2 c3
                  have BX := Lib.hid (Box2.new a[j] hbox hgs hbl)
                  go_cut [93] (fun s93 wx => s93 = .bool (goodB zs j) ∧ Box2 w3 wo.heap.size a[k] wi.heap.size a[j] wx)
                  case first =>
                    by_cases hi : j < f
                    · have hi' : j < zs.length := by rw [Hf.out]; exact hi
                      obtain ⟨fb, fo, rfl, hfb, hc⟩ := (HF3.out.below BX.out.2.2.2.2).at_ hi'
                      have HG := Lib.hid (good_in zs j hi')
                      by_cases h0 : 0 ≤ zs[j]
                      · have e0 : decide (0 ≤ zs[j]) = true := decide_eq_true h0
                        go_wp2_with fail
                        go_meet
                        refine ⟨?_, BX.out⟩
                        rw [HG.out]; simp [h0]
                      · go_wp2_with fail
                        go_meet
                        refine ⟨?_, BX.out⟩
                        rw [HG.out]; simp; omega
                    · have HG := Lib.hid (good_out zs j (by rw [Hf.out]; exact hi))
                      go_wp2_with fail
                      go_meet
                      refine ⟨?_, BX.out⟩
                      rw [HG.out]
                  case rest =>
                    obtain ⟨rfl, BX1⟩ := hcut
                    have HB1 := Lib.hid BX1
                    clear BX BX1
                    obtain ⟨gb, Hgb⟩ : ∃ b, Hid (goodB zs j = b) := ⟨_, rfl⟩
                    rw [Hgb.out]
                    go_upto_if 93 with fail
                    go_cut [15] (fun s15 wx => s15 = .int .i64 (fateI zs j) ∧ Box2 w3 wo.heap.size a[k] wi.heap.size a[j] wx)
                    case first =>
                      cases gb
                      · have HG := Lib.hid (good_no Hgb.out)
                        go_wp2_with fail
                        go_meet
                        refine ⟨?_, HB1.out⟩
                        rw [HG.out]
                      · obtain ⟨hi', hG⟩ := good_yes Hgb.out
                        have HG := Lib.hid hG
                        clear hG
                        have hi : j < f := by rw [← Hf.out]; exact hi'
                        obtain ⟨fb, fo, rfl, hfb, hc⟩ := (HF3.out.below HB1.out.2.2.2.2).at_ hi'
                        go_wp2_with fail
                        go_meet
                        refine ⟨?_, HB1.out⟩
                        rw [HG.out]
                    case rest =>
                      obtain ⟨rfl, BX2⟩ := hcut
                      have HB2 := Lib.hid BX2
                      clear HB1 Hgb hbox hgs hbl hzl
                      obtain ⟨fj, Hfj⟩ : ∃ x, Hid (fateI zs j = x) := ⟨_, rfl⟩
                      rw [Hfj.out]
                      have hr : fj = 0 ∨ fj = 1 ∨ fj = 2 ∨ fj = 3 := by have := fate_range zs j; rw [← Hfj.out]; omega
                      have hq := fun W => run_eql_pkt W a[j] a[k]
                      obtain ⟨⟨p0, p1, p2, p3⟩, ⟨q0, q1, q2, q3⟩, y1, y2, y3⟩ := BX2
                      have Y3 := Lib.hid y3
                      clear y3
                      cases he : pktEq a[j] a[k]
                      · have H1 := Lib.hid (here_other zs a a[k] j hjl' he)
                        have H2 := Lib.hid (there_other zs a a[k] j hjl' he)
                        clear hr
                        go_wp2_with fail
                        go_roundw
                        case rel => exact ⟨j + 1, u, v, by rw [Hn.out]; omega, by omega, by omega, by go_num, rfl, rfl, by rw [H1.out, HH.out], by rw [H2.out, HT.out], HB2.out.1, HB2.out.2.2.1, HB2.out.2.2.2.2⟩
                        case measure => simp [intOf]; omega
                      · rcases hr with rfl | rfl | rfl | rfl
                        · have H1 := Lib.hid (here_yes zs a a[k] j hjl' he (by rw [Hfj.out]; omega))
                          have H2 := Lib.hid (there_no zs a a[k] j hjl' (by rw [Hfj.out]; omega))
                          go_wp2_with fail
                          go_roundw
                          case rel => exact ⟨j + 1, u + 1, v, by rw [Hn.out]; omega, by omega, by omega, by go_num, by go_num, rfl, by rw [H1.out, HH.out], by rw [H2.out, HT.out], HB2.out.1, HB2.out.2.2.1, HB2.out.2.2.2.2⟩
                          case measure => simp [intOf]; omega
                        · have H1 := Lib.hid (here_no zs a a[k] j hjl' (by rw [Hfj.out]; omega))
                          have H2 := Lib.hid (there_no zs a a[k] j hjl' (by rw [Hfj.out]; omega))
                          go_wp2_with fail
                          go_roundw
                          case rel => exact ⟨j + 1, u, v, by rw [Hn.out]; omega, by omega, by omega, by go_num, rfl, rfl, by rw [H1.out, HH.out], by rw [H2.out, HT.out], HB2.out.1, HB2.out.2.2.1, HB2.out.2.2.2.2⟩
                          case measure => simp [intOf]; omega
                        · have H1 := Lib.hid (here_no zs a a[k] j hjl' (by rw [Hfj.out]; omega))
                          have H2 := Lib.hid (there_yes zs a a[k] j hjl' he (by rw [Hfj.out]; omega))
                          go_wp2_with fail
                          go_roundw
                          case rel => exact ⟨j + 1, u, v + 1, by rw [Hn.out]; omega, by omega, by omega, by go_num, rfl, by go_num, by rw [H1.out, HH.out], by rw [H2.out, HT.out], HB2.out.1, HB2.out.2.2.1, HB2.out.2.2.2.2⟩
                          case measure => simp [intOf]; omega
                        · have H1 := Lib.hid (here_yes zs a a[k] j hjl' he (by rw [Hfj.out]; omega))
                          have H2 := Lib.hid (there_yes zs a a[k] j hjl' he (by rw [Hfj.out]; omega))
                          go_wp2_with fail
                          go_roundw
                          case rel => exact ⟨j + 1, u + 1, v + 1, by rw [Hn.out]; omega, by omega, by omega, by go_num, by go_num, by go_num, by rw [H1.out, HH.out], by rw [H2.out, HT.out], HB2.out.1, HB2.out.2.2.1, HB2.out.2.2.2.2⟩
                          case measure => simp [intOf]; omega
                · have hje : j = n := by omega
                  subst hje
                  have HH' : Hid (cnt (arrF zs 0 a) a[k] = u) := by
                    have := HH.out; rw [List.take_of_length_le (by rw [Hn.out]; omega)] at this; exact this
                  have HT' : Hid (cnt (stayF zs 0 a) a[k] = v) := by
                    have := HT.out; rw [List.take_of_length_le (by rw [Hn.out]; omega)] at this; exact this
                  clear HH HT
                  have BI := Lib.hid hbl
                  have HBX := Lib.hid hbox
                  obtain ⟨p0, p1, p2, p3⟩ := hbox
                  go_wp2_with fail
                  refine (count_n X x xc u (arrF zs 0 a) a[k] _ Hx.out HH'.out (by omega) (RX.out.at_world BI.out)).mono ?_
                  rintro e w5 ⟨rfl, hb5⟩
                  have B5 := carry BI.out hb5
                  have B5' := Lib.hid B5
                  obtain ⟨q0, q1, q2, q3⟩ := HBX.out.below hb5 hgs
                  have z5 := B5.size
                  have z6 : wo.heap.size < w5.heap.size := by have := hb5.size; omega
                  clear p0 p1 p2 p3 hb5 HBX B5 hbl hzl
                  by_cases h4 : 4 ≤ a[k].a
                  · go_wp2_with fail
                    go_roundw
                    case rel => exact ⟨k + 1, s', by rw [Hn.out]; omega, hs', by go_num, rfl, Hsum'.out, B5'.out⟩
                    case measure => simp [intOf]; omega
                  · have hok : InI a[k].a := (OA.out a[k] (List.getElem_mem _)).2.2.1
                    have hwr : IntKind.i64.wrap (a[k].a + 1) = a[k].a + 1 := by unfold InI at hok; rw [IntKind.wrap_i64]; omega
                    clear hok
                    have HO := Lib.hid (stay_cnt zs a[k] (by omega) a 0)
                    go_wp2_with fail
                    refine (count_n Y y yc v (remF zs 0 a) a[k].older _ Hy.out (HO.out.trans HT'.out) (by omega) (RY.out.at_world (B5'.out.alloc z5 _))).mono ?_
                    rintro e w6 ⟨rfl, hb6⟩
                    have B6 := Lib.hid (carry (B5'.out.alloc z5 _) hb6)
                    clear hb6 q0 q1 q2 q3
                    go_wp2_with fail
                    go_roundw
                    case rel => exact ⟨k + 1, s', by rw [Hn.out]; omega, hs', by go_num, rfl, Hsum'.out, B6.out⟩
                    case measure => simp [intOf]; omega
    · have hke : k = n := by omega
      subst hke
      have hsx : s = x := by
        have := Hsum.out; rw [List.take_of_length_le (by rw [Hn.out]; omega), Hx.out] at this; exact this.symm
      subst hsx
      have hd : decide ((y : Int) ≤ (k : Int)) = true := decide_eq_true (by omega)
      go_wp2_with fail
      refine (alive_any _).mono ?_
      rintro e w2 ⟨rfl, hb2⟩
      go_wp2_with fail
      go_ret
      exact ⟨rfl, carry B3.out (carry hbel hb2)⟩
end Go.Proofs.Ytgpbfaelhfpbfaa
