/- Chapter 38: what the arguments Session and Message are as values. -/
import Derived.Test.YtmicbpeohfmepaaChecked
import Derived.Test.YtmicbpeohfmepaaAid
import Derived.Test.YtmicbpeohfmepaaPlain
import Derived.Deep.Slices
import Derived.ChangeSlices
namespace Go.Proofs.Ytmicbpeohfmepaa
open Go.ChangeShapes Go.WideShapes Go.RowKit Go.Deep

theorem cells3 : Try.prog.cellsOf 3 = 1 := by kernel_rfl
theorem cells4 : Try.prog.cellsOf 4 = 1 := by kernel_rfl
theorem cells23 : Try.prog.cellsOf 23 = 4 := by kernel_rfl
theorem cells24 : Try.prog.cellsOf 24 = 1 := by kernel_rfl
theorem cells25 : Try.prog.cellsOf 25 = 1 := by kernel_rfl
theorem cells27 : Try.prog.cellsOf 27 = 4 := by kernel_rfl
theorem cells29 : Try.prog.cellsOf 29 = 5 := by kernel_rfl
theorem cells31 : Try.prog.cellsOf 31 = 14 := by kernel_rfl
theorem cells47 : Try.prog.cellsOf 47 = 2 := by kernel_rfl
theorem cells52 : Try.prog.cellsOf 52 = 4 := by kernel_rfl
theorem cells55 : Try.prog.cellsOf 55 = 2 := by kernel_rfl
theorem list14 {α : Type} {l : List α} (h : l.length = 14) : ∃ a0 a1 a2 a3 a4 a5 a6 a7 a8 a9 a10 a11 a12 a13, l = [a0, a1, a2, a3, a4, a5, a6, a7, a8, a9, a10, a11, a12, a13] := by
  match l, h with
  | [a0, a1, a2, a3, a4, a5, a6, a7, a8, a9, a10, a11, a12, a13], _ => exact ⟨a0, a1, a2, a3, a4, a5, a6, a7, a8, a9, a10, a11, a12, a13, rfl⟩
theorem exists_list {α : Type} (P : Nat → α → Prop) : ∀ n, (∀ i, i < n → ∃ p, P i p) → ∃ l : List α, l.length = n ∧ ∀ i p, l[i]? = some p → P i p
  | 0, _ => ⟨[], rfl, by simp⟩
  | n + 1, h => by
    obtain ⟨l, hl, hp⟩ := exists_list P n (fun i hi => h i (by omega))
    obtain ⟨q, hq⟩ := h n (by omega)
    refine ⟨l ++ [q], by simp [hl], fun i p hi => ?_⟩
    rw [List.getElem?_append] at hi
    split at hi
    · exact hp i p hi
    · rename_i hge
      have hi' : i = n := by
        have := (List.getElem?_eq_some_iff.1 hi).1
        simp at this
        omega
      subst hi'
      simp [hl] at hi
      subst hi
      exact hq

section
variable {H : Type} {enc : TypeId × Value → H} {w : World} {base : Nat} {held : Bool}
/-- Each cell of such a value is an integer. -/
def AllInts (enc : TypeId × Value → H) (w : World) (base : Nat) (held : Bool) (e : TypeId) (size : Nat) : Prop :=
  ∀ (n : Nat) (cs : List Value) (x : DataW H × List MemPlace), DataW.trod enc Try.prog w base (fun _ => true) held n e cs = some x → cs.length = size ∧ ∀ j, j < size → ∃ z, cs[j]? = some (.int .i64 z) ∧ InI z
theorem ints52 : AllInts enc w base held 52 4 := fun n cs x h => by
  obtain ⟨hl, m, hf⟩ := fields_of Try.underlying52 h
  refine ⟨hl.trans cells52, fun j hj => ?_⟩
  obtain ⟨x0, h0, w0⟩ := field_int hf 0 rfl Try.underlying3 cells3
  obtain ⟨x1, h1, w1⟩ := field_int hf 1 rfl Try.underlying3 cells3
  obtain ⟨x2, h2, w2⟩ := field_int hf 2 rfl Try.underlying3 cells3
  obtain ⟨x3, h3, w3⟩ := field_int hf 3 rfl Try.underlying3 cells3
  match j, hj with
  | 0, _ => exact ⟨x0, h0, wf_i64 w0⟩
  | 1, _ => exact ⟨x1, h1, wf_i64 w1⟩
  | 2, _ => exact ⟨x2, h2, wf_i64 w2⟩
  | 3, _ => exact ⟨x3, h3, wf_i64 w3⟩
theorem ints55 : AllInts enc w base held 55 2 := fun n cs x h => by
  obtain ⟨hl, m, hf⟩ := fields_of Try.underlying55 h
  refine ⟨hl.trans cells55, fun j hj => ?_⟩
  obtain ⟨x0, h0, w0⟩ := field_int hf 0 rfl Try.underlying3 cells3
  obtain ⟨x1, h1, w1⟩ := field_int hf 1 rfl Try.underlying3 cells3
  match j, hj with
  | 0, _ => exact ⟨x0, h0, wf_i64 w0⟩
  | 1, _ => exact ⟨x1, h1, wf_i64 w1⟩
theorem ints47 : AllInts enc w base held 47 2 := fun n cs x h => by
  obtain ⟨hl, m, hf⟩ := fields_of Try.underlying47 h
  refine ⟨hl.trans cells47, fun j hj => ?_⟩
  obtain ⟨x0, h0, w0⟩ := field_int hf 0 rfl Try.underlying3 cells3
  obtain ⟨x1, h1, w1⟩ := field_int hf 1 rfl Try.underlying3 cells3
  match j, hj with
  | 0, _ => exact ⟨x0, h0, wf_i64 w0⟩
  | 1, _ => exact ⟨x1, h1, wf_i64 w1⟩
theorem ints3 : AllInts enc w base held 3 1 := fun n cs x h => by
  obtain ⟨z, hz, _, hwf⟩ := DataW.trod_int Try.underlying3 h
  subst hz
  exact ⟨rfl, fun j hj => ⟨z, by rw [show j = 0 by omega]; rfl, wf_i64 hwf⟩⟩
/-- A slice of values of integers. -/
theorem slice_ints {t e : TypeId} {size : Nat} (hs : 0 < size) (ht : Try.prog.underlying t = some (.slice e)) (he : Try.prog.cellsOf e = size) (hi : AllInts enc w base held e size) {n : Nat} {cs : List Value} {x : DataW H × List MemPlace} (h : DataW.trod enc Try.prog w base (fun _ => true) held n t cs = some x) :
    ∃ (A : Option Addr) (k c : Nat) (zs : List Int), cs = [.slice A k c] ∧ k ≤ maxLen ∧ zs.length = k * size ∧ (∀ z ∈ zs, InI z) ∧ RdF w w.heap.size A zs := by
  rcases open_slice ht h with ⟨hcs, _⟩ | ⟨a, len, cap, m, n, D, Pl, hcs, _, hl, hm, hmm, _, hel⟩
  · exact ⟨none, 0, 0, [], hcs, by simp, by simp, by simp, RdF.nil⟩
  · simp only [if_true] at hmm
    subst hmm
    obtain ⟨zs, hz, hP⟩ := exists_list (fun i (z : Int) => InI z ∧ w.cell? (a.add i) = some (.int .i64 z)) (len * size) (fun i hi' => by
      have hq : i / size < len := (Nat.div_lt_iff_lt_mul hs).2 hi'
      have hr : i % size < size := Nat.mod_lt _ hs
      obtain ⟨cs', hc, ht⟩ := hel (i / size) (by omega)
      rw [he] at hc
      obtain ⟨_, hz⟩ := hi _ _ _ ht
      obtain ⟨z, h1, h2⟩ := hz (i % size) hr
      obtain ⟨_, _, hat⟩ := World.cells?_some hc
      refine ⟨z, h2, ?_⟩
      have := hat (i % size) hr
      rw [Go.Deep.add_add, h1] at this
      rw [show i / size * size + i % size = i from Nat.div_add_mod' i size] at this
      exact this)
    refine ⟨some a, len, _, zs, hcs, by omega, hz, fun z hzm => ?_, fun hn => ?_⟩
    · obtain ⟨i, hi'⟩ := List.getElem?_of_mem hzm
      exact (hP i z hi').1
    · have c0 := (hP 0 zs[0] (List.getElem?_eq_getElem hn)).2
      have hsp := World.cell?_spot c0
      have hbl := block_lt_of_cell c0
      obtain ⟨b, off, sp⟩ := a
      simp [Addr.add] at hsp hbl
      subst hsp
      refine ⟨b, off, rfl, hbl, fun i z hz => ?_⟩
      have ha : ∀ j, (⟨b, off, none⟩ : Addr).add j = ⟨b, off + j, none⟩ := fun j => by unfold Addr.add; split <;> simp_all
      have := (hP i z hz).2
      rw [ha] at this
      exact this
theorem field_slice {fs : Array Field} {n : Nat} {cs : List Value} (h : FieldsRead enc Try.prog w base (fun _ => true) held n fs cs) (i : Nat) {f : Field} (hf : fs[i]? = some f) {e : TypeId} {size : Nat} (hs : 0 < size) (ht : Try.prog.underlying f.type = some (.slice e)) (hc : Try.prog.cellsOf f.type = 1) (he : Try.prog.cellsOf e = size) (hi : AllInts enc w base held e size) :
    ∃ (A : Option Addr) (k c : Nat) (zs : List Int), cs[f.offset]? = some (.slice A k c) ∧ k ≤ maxLen ∧ zs.length = k * size ∧ RdF w w.heap.size A zs := by
  obtain ⟨y, hy⟩ := h i f hf
  obtain ⟨A, k, c, zs, h1, h2, h3, _, h5⟩ := slice_ints hs ht he hi hy
  rw [hc] at h1
  exact ⟨A, k, c, zs, one_at h1, h2, h3, h5⟩
variable {b0 : Nat} {r : Reach} {v : Value} {d : DataW H} {p : List MemPlace}
theorem open_session (hv : Value.okWide Try.prog w r b0 23 v) (h : DataW.Trod enc Try.prog w base (fun _ => true) held 23 v d p) :
    ∃ p o i h, v = .agg #[.int .i64 p, .int .i64 o, .int .i64 i, .int .i64 h] ∧ InI p ∧ InI o ∧ InI i ∧ InI h := by
  obtain ⟨cs, rfl, hl, n, hf⟩ := agg_of Try.underlying23 hv h
  obtain ⟨a0, a1, a2, a3, rfl⟩ := list4 (hl.trans cells23)
  obtain ⟨x0, h0, w0⟩ := field_int hf 0 rfl Try.underlying3 cells3
  obtain ⟨x1, h1, w1⟩ := field_int hf 1 rfl Try.underlying3 cells3
  obtain ⟨x2, h2, w2⟩ := field_int hf 2 rfl Try.underlying3 cells3
  obtain ⟨x3, h3, w3⟩ := field_int hf 3 rfl Try.underlying3 cells3
  simp at h0 h1 h2 h3
  subst h0 h1 h2 h3
  exact ⟨x0, x1, x2, x3, rfl, wf_i64 w0, wf_i64 w1, wf_i64 w2, wf_i64 w3⟩
theorem open_msg (hv : Value.okWide Try.prog w r b0 31 v) (h : DataW.Trod enc Try.prog w base (fun _ => true) held 31 v d p) :
    ∃ (kd fr to sq tm as_ ae : Int) (P : Option Addr) (pn pc : Nat) (L : Option Addr) (ln lc : Nat) (r0 r1 r2 r3 : Int) (rb : Bool) (zp zl : List Int),
      v = .agg #[.int .i64 kd, .int .i64 fr, .int .i64 to, .int .i64 sq, .int .i64 tm, .int .i64 as_, .int .i64 ae, .slice P pn pc, .slice L ln lc, .int .i64 r0, .int .i64 r1, .int .i64 r2, .int .i64 r3, .bool rb] ∧
      InI tm ∧ pn ≤ maxLen ∧ ln ≤ maxLen ∧ zp.length = pn * 4 ∧ zl.length = ln * 2 ∧ RdF w w.heap.size P zp ∧ RdF w w.heap.size L zl := by
  obtain ⟨cs, rfl, hl, n, hf⟩ := agg_of Try.underlying31 hv h
  obtain ⟨a0, a1, a2, a3, a4, a5, a6, a7, a8, a9, a10, a11, a12, a13, rfl⟩ := list14 (hl.trans cells31)
  obtain ⟨x0, h0, _⟩ := field_int hf 0 rfl Try.underlying3 cells3
  obtain ⟨x1, h1, _⟩ := field_int hf 1 rfl Try.underlying3 cells3
  obtain ⟨x2, h2, _⟩ := field_int hf 2 rfl Try.underlying3 cells3
  obtain ⟨x3, h3, _⟩ := field_int hf 3 rfl Try.underlying3 cells3
  obtain ⟨x4, h4, w4⟩ := field_int hf 4 rfl Try.underlying3 cells3
  obtain ⟨m1, g1⟩ := field_struct hf 5 rfl Try.underlying27
  obtain ⟨m2, g2⟩ := field_struct hf 6 rfl Try.underlying29
  obtain ⟨x5, h5, _⟩ := field_int g1 0 rfl Try.underlying3 cells3
  obtain ⟨x6, h6, _⟩ := field_int g1 1 rfl Try.underlying3 cells3
  obtain ⟨P, pn, pc, zp, h7, hp1, hp2, hp3⟩ := field_slice g1 2 rfl (by omega) Try.underlying24 cells24 cells52 ints52
  obtain ⟨L, ln, lc, zl, h8, hl1, hl2, hl3⟩ := field_slice g1 3 rfl (by omega) Try.underlying25 cells25 cells55 ints55
  obtain ⟨x9, h9, _⟩ := field_int g2 0 rfl Try.underlying3 cells3
  obtain ⟨x10, h10, _⟩ := field_int g2 1 rfl Try.underlying3 cells3
  obtain ⟨x11, h11, _⟩ := field_int g2 2 rfl Try.underlying3 cells3
  obtain ⟨x12, h12, _⟩ := field_int g2 3 rfl Try.underlying3 cells3
  obtain ⟨x13, h13⟩ := field_bool g2 4 rfl Try.underlying4 cells4
  simp [cells27, cells29] at h0 h1 h2 h3 h4 h5 h6 h7 h8 h9 h10 h11 h12 h13
  subst h0 h1 h2 h3 h4 h5 h6 h7 h8 h9 h10 h11 h12 h13
  exact ⟨x0, x1, x2, x3, x4, x5, x6, P, pn, pc, L, ln, lc, x9, x10, x11, x12, x13, zp, zl, rfl, wf_i64 w4, hp1, hl1, hp2, hl2, hp3, hl3⟩
end
end Go.Proofs.Ytmicbpeohfmepaa
