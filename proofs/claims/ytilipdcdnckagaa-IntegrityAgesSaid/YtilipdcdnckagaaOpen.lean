/- Chapter 36: what the arguments Tail, Train and Report are as values. -/
import Derived.Test.YtilipdcdnckagaaChecked
import Derived.Test.YtilipdcdnckagaaAid
import Derived.Test.YtilipdcdnckagaaPlain
namespace Go.Proofs.Ytilipdcdnckagaa
open Go.ChangeShapes Go.WideShapes Go.RowKit Go.Deep

theorem cells3 : Try.prog.cellsOf 3 = 1 := by kernel_rfl
theorem cells4 : Try.prog.cellsOf 4 = 1 := by kernel_rfl
theorem cells9 : Try.prog.cellsOf 9 = 1 := by kernel_rfl
theorem cells23 : Try.prog.cellsOf 23 = 2 := by kernel_rfl
theorem cells28 : Try.prog.cellsOf 28 = 10 := by kernel_rfl
theorem cells30 : Try.prog.cellsOf 30 = 5 := by kernel_rfl

section
variable {H : Type} {enc : TypeId × Value → H} {w : World} {base b0 : Nat} {spare : Nat → Bool} {held : Bool} {r : Reach} {v : Value} {d : DataW H} {p : List MemPlace}
theorem open_tail (hv : Value.okWide Try.prog w r b0 23 v) (h : DataW.Trod enc Try.prog w base spare held 23 v d p) :
    ∃ k s, v = .agg #[.bool k, .int .i64 s] ∧ InI s := by
  obtain ⟨cs, rfl, hl, n, hf⟩ := agg_of Try.underlying23 hv h
  obtain ⟨a, b, rfl⟩ := list2 (hl.trans cells23)
  obtain ⟨k, hk⟩ := field_bool hf 0 rfl Try.underlying4 cells4
  obtain ⟨s, hs, ws⟩ := field_int hf 1 rfl Try.underlying3 cells3
  simp at hk hs
  subst hk hs
  exact ⟨k, s, rfl, wf_i64 ws⟩
theorem open_report (hv : Value.okWide Try.prog w r b0 30 v) (h : DataW.Trod enc Try.prog w base spare held 30 v d p) :
    ∃ mi rs mo acc wh, v = .agg #[.int .i64 mi, .int .i64 rs, .int .i64 mo, .int .i64 acc, .bool wh] ∧ InI mi := by
  obtain ⟨cs, rfl, hl, n, hf⟩ := agg_of Try.underlying30 hv h
  obtain ⟨a0, a1, a2, a3, a4, rfl⟩ := list5 (hl.trans cells30)
  obtain ⟨x0, h0, w0⟩ := field_int hf 0 rfl Try.underlying3 cells3
  obtain ⟨x1, h1, _⟩ := field_int hf 1 rfl Try.underlying3 cells3
  obtain ⟨x2, h2, _⟩ := field_int hf 2 rfl Try.underlying3 cells3
  obtain ⟨x3, h3, _⟩ := field_int hf 3 rfl Try.underlying3 cells3
  obtain ⟨x4, h4⟩ := field_bool hf 4 rfl Try.underlying4 cells4
  simp at h0 h1 h2 h3 h4
  subst h0 h1 h2 h3 h4
  exact ⟨x0, x1, x2, x3, x4, rfl, wf_i64 w0⟩
theorem open_train (hv : Value.okWide Try.prog w r b0 28 v) (h : DataW.Trod enc Try.prog w base spare held 28 v d p) :
    ∃ (id : Int) (nm : ByteArray) (l sp ac se em de co ra : Int), v = .agg #[.int .i64 id, .string nm, .int .i64 l, .int .i64 sp, .int .i64 ac, .int .i64 se, .int .i64 em, .int .i64 de, .int .i64 co, .int .i64 ra] ∧ nm.size ≤ maxLen := by
  obtain ⟨cs, rfl, hl, n, hf⟩ := agg_of Try.underlying28 hv h
  obtain ⟨a0, a1, a2, a3, a4, a5, a6, a7, a8, a9, rfl⟩ := list10 (hl.trans cells28)
  obtain ⟨x0, h0, _⟩ := field_int hf 0 rfl Try.underlying3 cells3
  obtain ⟨x1, h1, w1⟩ := field_string hf 1 rfl Try.underlying9 cells9
  obtain ⟨x2, h2, _⟩ := field_int hf 2 rfl Try.underlying3 cells3
  obtain ⟨x3, h3, _⟩ := field_int hf 3 rfl Try.underlying3 cells3
  obtain ⟨x4, h4, _⟩ := field_int hf 4 rfl Try.underlying3 cells3
  obtain ⟨x5, h5, _⟩ := field_int hf 5 rfl Try.underlying3 cells3
  obtain ⟨x6, h6, _⟩ := field_int hf 6 rfl Try.underlying3 cells3
  obtain ⟨x7, h7, _⟩ := field_int hf 7 rfl Try.underlying3 cells3
  obtain ⟨x8, h8, _⟩ := field_int hf 8 rfl Try.underlying3 cells3
  obtain ⟨x9, h9, _⟩ := field_int hf 9 rfl Try.underlying3 cells3
  simp at h0 h1 h2 h3 h4 h5 h6 h7 h8 h9
  subst h0 h1 h2 h3 h4 h5 h6 h7 h8 h9
  exact ⟨x0, x1, x2, x3, x4, x5, x6, x7, x8, x9, rfl, w1⟩
end
end Go.Proofs.Ytilipdcdnckagaa
