/- For of the program: contract. The groups lie in a map of the call's own. -/
import Derived.Test.YtgpbfaelhfpbfaaPushP
import Derived.Maps.RangeWalk
import Derived.Maps.OwnSet
import Derived.Deep.RegionHeld3
namespace Go.Proofs.Ytgpbfaelhfpbfaa
open Go.RowKit Go.Maps

/-- An element of the map as it stands: the value itself. -/
def rawE (v : Value) : Option (DataW Value × List MemPlace) := some (.held v, [])
def nilS : Value := .slice none 0 0
def KI (x : Int) : Lit := .int .i64 x
theorem key3 : Keyed Try.prog 3 := int_keyed Try.underlying3
theorem zero22 (w : World) : (zeroValue 22).run Try.prog w = .ok (.slice none 0 0) w := by kernel_rfl
theorem wfI {x : Int} (h : InI x) : (Lit.int .i64 x).wf = true := WalkArith.wf_i64 h
theorem keyI {x : Int} (h : InI x) : keyOf Try.prog 3 (.int .i64 x) = some (KI x) := keyOf_int_mk Try.underlying3 (wfI h)
theorem isKeyI {x : Int} (h : InI x) : WideAt.IsKeyLit (KI x) := key3.key (keyI h)
theorem KI_ne {x y : Int} (h : x ≠ y) : KI x ≠ KI y := fun e => h (by unfold KI at e; injection e)

/-- Block B is a map from receivers to their packets among l, in lists of the call's own that lie apart. -/
def Groups (w : World) (B k : Nat) (l : List Pkt) : Prop :=
  ∃ (D : DataW Value) (V : Int → Value), w.ownsMap Try.prog 3 rawE B k D ∧ (∀ x, D.atKey (KI x) (.held nilS) = .held (V x)) ∧ (∀ x, Own w (B + 1) (V x) (sel l x)) ∧ ∀ x y, x ≠ y → (V x).ownBlock = none ∨ (V x).ownBlock ≠ (V y).ownBlock

theorem look_of {w : World} {B k : Nat} {D : DataW Value} {x : Int} {v : Value} (h : w.ownsMap Try.prog 3 rawE B k D) (hx : InI x) (hv : D.atKey (KI x) (.held nilS) = .held v) :
    (Instr.lookup 37 (.map (some B)) (.int .i64 x) false).run Try.prog w = .ok v w := by
  obtain ⟨v', ps, hrun, hR⟩ := h.lookup key3 Try.underlying37 (zero22 w) (zd := .held nilS) (zp := []) rfl (keyI hx)
  rw [hv] at hR
  simp [rawE] at hR
  rw [hR.1] at hrun
  exact hrun

theorem Groups.alloc {w : World} {B k : Nat} {l : List Pkt} (h : Groups w B k l) (o : Obj) : Groups (w.alloc o) B k l := by
  obtain ⟨D, V, h1, h2, h3, h4⟩ := h
  exact ⟨D, V, h1.alloc o, h2, fun x => (h3 x).alloc o, h4⟩
theorem Groups.made (w : World) : Groups (w.alloc (.map #[] 0)) w.heap.size 0 [] :=
  ⟨.map [], fun _ => nilS, World.ownsMap_made w _ _ _, fun _ => rfl, fun _ => Own.nil _ _, fun _ _ _ => .inl rfl⟩
theorem sel_snoc_same (l : List Pkt) (p : Pkt) : sel (l ++ [p]) p.t = sel l p.t ++ [p] := by unfold sel; rw [List.filter_append]; simp
theorem sel_snoc_other (l : List Pkt) (p : Pkt) (x : Int) (h : x ≠ p.t) : sel (l ++ [p]) x = sel l x := by unfold sel; rw [List.filter_append]; simp [Ne.symm h]

/-- The look-up, and the way back. -/
theorem Groups.at_ {w : World} {B k : Nat} {l : List Pkt} (h : Groups w B k l) (p : Pkt) (hp : InI p.t) (hk : k < maxLen) :
    ∃ v, (∀ W : World, W.heap[B]? = w.heap[B]? → (Instr.lookup 37 (.map (some B)) (.int .i64 p.t) false).run Try.prog W = .ok v W) ∧ Own w (B + 1) v (sel l p.t) ∧ B < w.heap.size ∧
      ∀ (W1 : World) (v' : Value), w.grownBy W1 v.ownBlock → Own W1 (B + 1) v' (sel l p.t ++ [p]) → (v'.ownBlock = v.ownBlock ∨ ∃ g, v'.ownBlock = some g ∧ w.heap.size ≤ g) →
        ∃ W2, (Instr.mapUpdate 37 (.map (some B)) (.int .i64 p.t) v').run Try.prog W1 = .ok () W2 ∧ Groups W2 B (k + 1) (l ++ [p]) ∧ W1.grownBy W2 (some B) := by
  obtain ⟨D, V, h1, h2, h3, h4⟩ := h
  have hB := h1.lt
  refine ⟨V p.t, fun W hW => ?_, h3 _, hB, fun W1 v' hg hown hat => ?_⟩
  · have h1' : W.ownsMap Try.prog 3 rawE B k D := by
      obtain ⟨es, clock, hb, F, hs, hD⟩ := h1
      exact ⟨es, clock, hW.trans hb, F, hs, hD⟩
    exact look_of h1' hp (h2 _)
  · have hne : some B ≠ (V p.t).ownBlock := fun e => by have := ((h3 p.t).lt _ e.symm).1; omega
    have m1 := h1.kept hg hne
    obtain ⟨W2, hrun, m2, hg2⟩ := m1.update key3 Try.underlying37 hk (keyI hp) (show rawE v' = some (.held v', []) from rfl)
    have own2 : ∀ {u : Value} {m : List Pkt}, Own W1 (B + 1) u m → Own W2 (B + 1) u m := fun {u m} ho => ho.kept hg2 (by
      cases hu : u.ownBlock with
      | none => exact .inl rfl
      | some g => refine .inr (fun e => ?_); have := (ho.lt _ hu).1; injection e with e; omega)
    have oth : ∀ x, x ≠ p.t → (V x).ownBlock = none ∨ (V x).ownBlock ≠ v'.ownBlock := fun x hx => by
      rcases hat with e | ⟨g, e, hgl⟩
      · rw [e]; exact h4 x p.t hx
      · cases hu : (V x).ownBlock with
        | none => exact .inl rfl
        | some j => refine .inr (fun e2 => ?_); rw [e] at e2; injection e2 with e2; have := ((h3 x).lt _ hu).2; omega
    refine ⟨W2, hrun, ⟨_, fun x => if x = p.t then v' else V x, m2, fun x => ?_, fun x => ?_, fun x y hxy => ?_⟩, hg2⟩
    · by_cases hx : x = p.t
      · subst hx
        simp only [if_true]
        exact atKey_put_same h1.isMap (isKeyI hp) _ _
      · simp only [if_neg hx]
        rw [← h2 x]
        exact atKey_put_other (KI_ne hx) _ _
    · by_cases hx : x = p.t
      · subst hx
        simp only [if_true]
        rw [sel_snoc_same]
        exact own2 hown
      · simp only [if_neg hx]
        rw [sel_snoc_other l p x hx]
        exact own2 ((h3 x).kept hg (h4 x p.t hx))
    · by_cases hx : x = p.t
      · subst hx
        have hy : ¬ y = p.t := fun e => hxy e.symm
        simp only [if_true, if_neg hy]
        cases hv : v'.ownBlock with
        | none => exact .inl rfl
        | some j =>
          rcases oth y hy with e | e
          · rw [e]; exact .inr (by simp)
          · rw [hv] at e; exact .inr (fun e2 => e e2.symm)
      · by_cases hy : y = p.t
        · subst hy
          simp only [if_true, if_neg hx]
          exact oth x hx
        · simp only [if_neg hx, if_neg hy]
          exact h4 x y hxy

theorem step_app (w : World) {ops : Array Oper} {o : Oper} {a : Act} {K : Act → World → Prop} {Q : Exit → Act → World → Prop} {E : Prop} (hgd : o.guard = none) (s x : Operand) (ho : o.op = .call { callee := .builtin .append, args := #[s, x], argTypes := #[22, 22] })
    (base : Nat) (v : Value) (l : List Pkt) (hs : a.eval s = v) (hown : Own w base v l) (X : Option Addr) (n c' : Nat) (m : List Pkt) (hx : a.eval x = .slice X n c') (hn : m.length = n) (hr : Rd w w.heap.size X m) (hlen : l.length + m.length ≤ 100000) (hbase : base ≤ w.heap.size)
    (h : ∀ A' n' c w', n' = (l ++ m).length → Own w' base (.slice A' n' c) (l ++ m) → w.grownBy w' v.ownBlock → ((Value.slice A' n' c).ownBlock = v.ownBlock ∨ (Value.slice A' n' c).ownBlock = some w.heap.size) → K (a.put o.dst (.slice A' n' c)) w') :
    if Region.wanted o (yielded ops a.tmps) = true then Oper.wp Try.prog o a w K Q else E := by
  have hw : Region.wanted o (yielded ops a.tmps) = true := by simp [Region.wanted, hgd]
  rw [if_pos hw]
  exact wp_app w s x ho base v l hs hown X n c' m hx hn hr hlen hbase h
def MapRel (l : List Pkt) (w : World) (i : Value) (wr : World) : Prop := ∃ k : Nat, k ≤ l.length ∧ i = .int .i64 k ∧ Groups wr w.heap.size k (l.take k) ∧ Below w.heap.size w wr

/-- In the loop over the map: 'found' is the receiver's list, or nil while that is still to come. -/
def RangeRel (l : List Pkt) (to : Int) (w : World) (r : Nat) (D : DataW Value) (vt : Value) (f : Value) (wx : World) : Prop :=
  ∃ left cnt, wx.ranges Try.prog 3 rawE w.heap.size r l.length D left cnt ∧ (f = vt ∨ (f = nilS ∧ left (KI to) = true)) ∧ Own wx (w.heap.size + 1) vt (sel l to) ∧ Below w.heap.size w wx ∧ (vt.ownBlock ≠ some r)
theorem range_start {l : List Pkt} {to : Int} {w wr w0 : World} {D : DataW Value} {vt : Value} (hV : D.atKey (KI to) (.held nilS) = .held vt) (hrg : w0.ranges Try.prog 3 rawE w.heap.size wr.heap.size l.length D (Maps.has D) (Maps.size D))
    (hown : Own w0 (w.heap.size + 1) vt (sel l to)) (hownr : Own wr (w.heap.size + 1) vt (sel l to)) (hb : Below w.heap.size w w0) : RangeRel l to w wr.heap.size D vt nilS w0 := by
  refine ⟨_, _, hrg, ?_, hown, hb, fun e => by have := (hownr.lt _ e).2; omega⟩
  cases hh : Maps.has D (KI to)
  · left
    rw [atKey_of_not_has hh] at hV
    injection hV
  · exact .inr ⟨rfl, rfl⟩
theorem range_end {vt f : Value} {left : Lit → Bool} {to : Int} (h : f = vt ∨ (f = nilS ∧ left (KI to) = true)) (hl : left (KI to) = false) : vt = f := by
  rcases h with h | ⟨_, h⟩
  · exact h.symm
  · rw [hl] at h; cases h
theorem key_is {x : Int} {kl : Lit} (h : keyOf Try.prog 3 (.int .i64 x) = some kl) : kl = KI x := by
  obtain ⟨x', e, rfl, _⟩ := Maps.keyOf_int_inv Try.underlying3 h
  injection e with _ e
  rw [e]; rfl
theorem range_hit {D : DataW Value} {vt gv : Value} {x to : Int} {kl : Lit} {y : DataW Value × List MemPlace} (hV : D.atKey (KI to) (.held nilS) = .held vt) (hk : keyOf Try.prog 3 (.int .i64 x) = some kl) (hx : x = to) (hR : rawE gv = some y) (hat : ∀ zd, D.atKey kl zd = y.1) : gv = vt := by
  have e := key_is hk
  subst hx e
  rw [hat] at hV
  simp [rawE] at hR
  subst hR
  injection hV
theorem range_miss {vt f : Value} {left : Lit → Bool} {x to : Int} {kl : Lit} (h : f = vt ∨ (f = nilS ∧ left (KI to) = true)) (hk : keyOf Try.prog 3 (.int .i64 x) = some kl) (hx : ¬ x = to) : f = vt ∨ (f = nilS ∧ (left (KI to) && !(KI to).sameKey kl) = true) := by
  have e := key_is hk
  subst e
  rcases h with h | ⟨h1, h2⟩
  · exact .inl h
  · refine .inr ⟨h1, ?_⟩
    have : (KI to).sameKey (KI x) = false := Maps.sameKey_ne (KI_ne (fun e => hx e.symm))
    rw [h2, this]; rfl
theorem grown_drew {w w1 : World} {r : Option Nat} (h : w.drew.grownBy w1 r) : w.grownBy w1 r := ⟨h.os, h.tape, h.output, h.size, h.block⟩
set_option maxHeartbeats 8000000 in
theorem for_any (A : Option Addr) (c : Nat) (l : List Pkt) (to : Int) (w : World) (hl : l.length ≤ 2000) (hok : ∀ p ∈ l, InI p.t) (hA : Rd w w.heap.size A l) :
    Calls Try.prog 10 #[.slice A l.length c, .int .i64 to] w (Gives (sel l to) w) := by
  have HA := Lib.hid hA
  have HO := Lib.hid hok
  clear hA hok
  have hmm := @run_makeMap Try.prog
  go_enter Try.func10, Try.ntmps10
  go_wp2
  go_loopw [14] (fun i wr => MapRel l w i wr) (fun i _ => l.length - (intOf i).toNat)
  case atStart => exact ⟨0, Nat.zero_le _, rfl, Groups.made _, (Below.refl _ _).alloc (Nat.le_refl _) _⟩
  case round =>
    obtain ⟨k, hk, rfl, hG, hb⟩ := hrel
    have hz := hb.size
    by_cases hlt : k < l.length
    · obtain ⟨b, off, rfl, hbb, c0, c1, c2, c3⟩ := (HA.out.below hb).at_ hlt
      have hpt := HO.out _ (List.getElem_mem hlt)
      have hsn := Lib.hid (take_snoc l k hlt)
      obtain ⟨v, hlook, hown, hBl, hback⟩ := hG.at_ l[k] hpt (by unfold maxLen; omega)
      have HL := Lib.hid hlook
      have HBk := Lib.hid hback
      have hle := sel_le l k l[k].t
      clear hlook hback
      have q0 : (Instr.lookup 37 (.map (some w.heap.size)) (.int .i64 l[k].t) false).run Try.prog (wr.alloc (.cells #[.int .i64 l[k].f, .int .i64 l[k].t, .int .i64 l[k].a, .string l[k].d] 28)).drew = .ok v (wr.alloc (.cells #[.int .i64 l[k].f, .int .i64 l[k].t, .int .i64 l[k].a, .string l[k].d] 28)).drew := HL.out _ (Below.heap_alloc _ _ _ hBl)
      have q1 : (Instr.lookup 37 (.map (some w.heap.size)) (.int .i64 l[k].t) false).run Try.prog ((wr.alloc (.cells #[.int .i64 l[k].f, .int .i64 l[k].t, .int .i64 l[k].a, .string l[k].d] 28)).alloc (.cells #[.int .i64 l[k].f, .int .i64 l[k].t, .int .i64 l[k].a, .string l[k].d] 28)).drew = .ok v ((wr.alloc (.cells #[.int .i64 l[k].f, .int .i64 l[k].t, .int .i64 l[k].a, .string l[k].d] 28)).alloc (.cells #[.int .i64 l[k].f, .int .i64 l[k].t, .int .i64 l[k].a, .string l[k].d] 28)).drew := HL.out _ ((Below.heap_alloc _ _ _ (by simp; omega)).trans (Below.heap_alloc _ _ _ hBl))
      go_wp2_with fail
      go_region_held3 (fun w' => w'.cell? ⟨wr.heap.size, 0, none⟩ = some (.int .i64 l[k].f) ∧ w'.cell? ⟨wr.heap.size, 1, none⟩ = some (.int .i64 l[k].t) ∧ w'.cell? ⟨wr.heap.size, 2, none⟩ = some (.int .i64 l[k].a) ∧ w'.cell? ⟨wr.heap.size, 3, none⟩ = some (.string l[k].d))
        (first | exact hS2 | exact hS1 | exact ⟨by go_keep, by go_keep, by go_keep, by go_keep⟩)
        ((refine step_app _ (by rfl) _ _ (by rfl) (w.heap.size + 1) v _ (by rfl) (((hown.alloc _).alloc _).drew) _ _ _ [l[k]] (by rfl) rfl (Rd.one_at _ _ _ _ (by simp) (by simp)).drew (by simp; omega) (by simp; omega) ?_; intro A' n' c' w1 hn' hown' hgrow hat; obtain ⟨w2, hupd, hG2, hg2⟩ := HBk.out w1 (.slice A' n' c') ((World.grownBy_alloc wr _ _).trans ((World.grownBy_alloc _ _ _).trans (grown_drew hgrow))) hown' (hat.imp id (fun h => ⟨_, h, by simp; omega⟩)); have B1 : Blk w1 wr.heap.size 28 #[.int .i64 l[k].f, .int .i64 l[k].t, .int .i64 l[k].a, .string l[k].d] := ((Blk.new _ _ _).alloc _).grown (grown_drew hgrow) (fun e => (by have := (hown.lt _ e.symm).2; omega)); have B2 := B1.grown hg2 (fun e => (by injection e with e; omega)); have hS1 : w1.cell? ⟨wr.heap.size, 0, none⟩ = some (.int .i64 l[k].f) ∧ w1.cell? ⟨wr.heap.size, 1, none⟩ = some (.int .i64 l[k].t) ∧ w1.cell? ⟨wr.heap.size, 2, none⟩ = some (.int .i64 l[k].a) ∧ w1.cell? ⟨wr.heap.size, 3, none⟩ = some (.string l[k].d) := ⟨B1.cell 0, B1.cell 1, B1.cell 2, B1.cell 3⟩; have hS2 : w2.cell? ⟨wr.heap.size, 0, none⟩ = some (.int .i64 l[k].f) ∧ w2.cell? ⟨wr.heap.size, 1, none⟩ = some (.int .i64 l[k].t) ∧ w2.cell? ⟨wr.heap.size, 2, none⟩ = some (.int .i64 l[k].a) ∧ w2.cell? ⟨wr.heap.size, 3, none⟩ = some (.string l[k].d) := ⟨B2.cell 0, B2.cell 1, B2.cell 2, B2.cell 3⟩; have hb1 : Below w.heap.size w w1 := ((hb.alloc hz _).alloc (by simp; omega) _).grown (grown_drew hgrow) (by simp; omega) (fun j hj => (by have := (hown.lt j hj).1; omega)); have hb2 : Below w.heap.size w w2 := hb1.grown hg2 hb1.size (fun j hj => (by injection hj with hj; omega)); clear hn' B1 B2 hgrow hat hown' hg2))
      all_goals
        clear q0 q1 hS1 hS2 hupd
        go_wp2
        go_roundw
        case rel => exact ⟨k + 1, by omega, by go_num, by rw [hsn.out]; exact hG2, hb2⟩
        case measure => simp [intOf]; omega
    · obtain rfl : k = l.length := by omega
      rw [List.take_length] at hG
      obtain ⟨wo, rfl⟩ : ∃ wo : World, wo = wr := ⟨_, rfl⟩
      obtain ⟨D, V, hmap, hV, hownV, _⟩ := hG
      have HV := Lib.hid (hV to)
      have hown := hownV to
      clear hV hownV
      go_wp2_with (first | (at_range; refine wpList_range_own _ rfl _ 37 rfl 3 22 key3 Try.underlying37 rawE w.heap.size l.length D rfl hmap ?_; intro w0 hrg0 hg0 hs0))
      go_frame
      have hz0 : wo.heap.size < w0.heap.size := by omega
      have hb0 : Below w.heap.size w w0 := hb.grown hg0 hz (fun j hj => by cases hj)
      have hown0 : Own w0 (w.heap.size + 1) (V to) (sel l to) := hown.kept hg0 (by cases (V to).ownBlock <;> simp)
      clear hg0 hs0
      go_loopw [8] (fun f wx => RangeRel l to w wo.heap.size D (V to) f wx) (fun _ wx => wx.rangeLeft w.heap.size wo.heap.size)
      case atStart => exact range_start HV.out hrg0 hown0 hown hb0
      case round =>
        clear hrg0 hb0 hown0 hmap
        obtain ⟨left, cnt, hrg, hst, hown1, hb1, hfar⟩ := hrel
        have HST := Lib.hid hst
        have HFAR := Lib.hid hfar
        clear hst hfar
        go_wp2_with (first | (at_next; refine wpList_next_ranges _ rfl _ rfl 3 key3 rawE (Value.int .i64) (fun v => v) (fun key kl hkey => (by obtain ⟨x, rfl, _⟩ := Maps.keyOf_int_inv Try.underlying3 hkey; exact ⟨x, rfl⟩)) (fun v _ _ => ⟨v, rfl⟩) w.heap.size wo.heap.size l.length D left cnt rfl hrg ?_ ?_))
        · intro _ hl0
          have hown3 : Own wr w.heap.size u8 (sel l to) := by rw [← range_end HST.out (hl0 _)]; exact hown1.mono (by omega)
          clear hl0
          go_wp2
          go_ret
          exact ⟨_, rfl, hown3, hb1⟩
        · intro x gv kl y1 y2 w1 cnt1 hkey hlk hR hat hrg1 hlt hg1 hs1 hen
          have HK := Lib.hid hkey
          have HR := Lib.hid hR
          have HAT := Lib.hid hat
          have HLK := Lib.hid hlk
          clear hkey hR hat hlk hs1
          have hown2 : Own w1 (w.heap.size + 1) (V to) (sel l to) := hown1.kept hg1 (.inr HFAR.out)
          have hb2 : Below w.heap.size w w1 := hb1.grown hg1 hb1.size (fun j hj => by injection hj with hj; omega)
          by_cases hx : x = to
          · have hxe : (x == to) = true := by simpa using hx
            have HX := Lib.hid hx
            clear hx
            go_wp2
            go_roundw
            case rel => exact ⟨_, cnt1, hrg1, .inl (range_hit HV.out HK.out HX.out HR.out HAT.out), hown2, hb2, HFAR.out⟩
            case measure => rw [hrg1.left_eq, hrg.left_eq]; exact hlt
          · have hxe : (x == to) = false := by simpa using hx
            have HX := Lib.hid hx
            clear hx
            go_wp2
            go_roundw
            case rel => exact ⟨_, cnt1, hrg1, range_miss HST.out HK.out HX.out, hown2, hb2, HFAR.out⟩
            case measure => rw [hrg1.left_eq, hrg.left_eq]; exact hlt
end Go.Proofs.Ytgpbfaelhfpbfaa
