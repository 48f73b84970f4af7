/- General lemmas, of whatever program: the cells of a struct that came in by value. -/
import Derived.ProofKit
import Derived.WalkKit
import Derived.Below
import Derived.Carry
import Derived.Deep.Fields
import Derived.OpenShut
namespace Go.Proofs.Ytmicbpeohfmepaa
open Go.ChangeShapes Go.WideShapes Go.RowKit Go.Deep

section
variable {H : Type} {enc : TypeId × Value → H} {P : Program} {w : World} {base : Nat} {spare : Nat → Bool} {held : Bool}
/-- A struct by value: its cells, and of each field a reading of the cells at its offset. -/
def FieldsRead (enc : TypeId × Value → H) (P : Program) (w : World) (base : Nat) (spare : Nat → Bool) (held : Bool) (n : Nat) (fs : Array Field) (cs : List Value) : Prop :=
  ∀ (i : Nat) (f : Field), fs[i]? = some f → ∃ y, DataW.trod enc P w base spare held n f.type ((cs.drop f.offset).take (P.cellsOf f.type)) = some y
theorem fields_of {fs : Array Field} {t : TypeId} {fuel : Nat} {cs : List Value} {x : DataW H × List MemPlace} (hs : P.underlying t = some (.struct fs)) (h : DataW.trod enc P w base spare held fuel t cs = some x) :
    cs.length = P.cellsOf t ∧ ∃ n, FieldsRead enc P w base spare held n fs cs := by
  obtain ⟨xs, n, _, _, hl, hlen, hg⟩ := DataW.trod_struct hs h
  refine ⟨hl, n, fun i f hf => ?_⟩
  have hi : i < fs.size := (Array.getElem?_eq_some_iff.1 hf).1
  exact ⟨_, (hg i f hf).trans (List.getElem?_eq_getElem (by omega))⟩
theorem agg_of {fs : Array Field} {t : TypeId} {r : Reach} {b0 : Nat} {v : Value} {d : DataW H} {p : List MemPlace} (hs : P.underlying t = some (.struct fs))
    (hv : Value.okWide P w r b0 t v) (h : DataW.Trod enc P w base spare held t v d p) :
    ∃ cs : List Value, v = .agg cs.toArray ∧ cs.length = P.cellsOf t ∧ ∃ n, FieldsRead enc P w base spare held n fs cs := by
  obtain ⟨cs, rfl, hsz⟩ := okWide_struct hs hv
  obtain ⟨fuel, hf⟩ := h
  obtain ⟨h1, h2⟩ := fields_of hs hf
  exact ⟨cs.toList, by simp, by simpa using hsz, by simpa [Value.cells] using h2⟩
theorem one_at {cs : List Value} {o : Nat} {u : Value} (h : (cs.drop o).take 1 = [u]) : cs[o]? = some u := by
  have : ((cs.drop o).take 1)[0]? = some u := by rw [h]; rfl
  simpa using this
theorem field_int {fs : Array Field} {n : Nat} {cs : List Value} (h : FieldsRead enc P w base spare held n fs cs) (i : Nat) {f : Field} (hf : fs[i]? = some f) {k : IntKind} (hu : P.underlying f.type = some (.int k)) (hc : P.cellsOf f.type = 1) :
    ∃ z, cs[f.offset]? = some (.int k z) ∧ (Lit.int k z).wf = true := by
  obtain ⟨y, hy⟩ := h i f hf
  obtain ⟨z, hz, _, hwf⟩ := DataW.trod_int hu hy
  rw [hc] at hz
  exact ⟨z, one_at hz, hwf⟩
theorem field_bool {fs : Array Field} {n : Nat} {cs : List Value} (h : FieldsRead enc P w base spare held n fs cs) (i : Nat) {f : Field} (hf : fs[i]? = some f) (hu : P.underlying f.type = some .bool) (hc : P.cellsOf f.type = 1) :
    ∃ z, cs[f.offset]? = some (.bool z) := by
  obtain ⟨y, hy⟩ := h i f hf
  obtain ⟨z, hz, _⟩ := DataW.trod_bool hu hy
  rw [hc] at hz
  exact ⟨z, one_at hz⟩
theorem field_string {fs : Array Field} {n : Nat} {cs : List Value} (h : FieldsRead enc P w base spare held n fs cs) (i : Nat) {f : Field} (hf : fs[i]? = some f) (hu : P.underlying f.type = some .string) (hc : P.cellsOf f.type = 1) :
    ∃ z : ByteArray, cs[f.offset]? = some (.string z) ∧ z.size ≤ maxLen := by
  obtain ⟨y, hy⟩ := h i f hf
  obtain ⟨z, hz, _, hl⟩ := DataW.trod_string hu hy
  rw [hc] at hz
  exact ⟨z, one_at hz, hl⟩
theorem field_struct {fs gs : Array Field} {n : Nat} {cs : List Value} (h : FieldsRead enc P w base spare held n fs cs) (i : Nat) {f : Field} (hf : fs[i]? = some f) (hu : P.underlying f.type = some (.struct gs)) :
    ∃ m, FieldsRead enc P w base spare held m gs ((cs.drop f.offset).take (P.cellsOf f.type)) := by
  obtain ⟨y, hy⟩ := h i f hf
  exact (fields_of hu hy).2
end
theorem wf_i64 {z : Int} (h : (Lit.int .i64 z).wf = true) : -9223372036854775808 ≤ z ∧ z ≤ 9223372036854775807 :=
  bounds_i64 h
theorem list2 {α : Type} {l : List α} (h : l.length = 2) : ∃ a b, l = [a, b] := by
  match l, h with
  | [a, b], _ => exact ⟨a, b, rfl⟩
theorem list4 {α : Type} {l : List α} (h : l.length = 4) : ∃ a b c d, l = [a, b, c, d] := by
  match l, h with
  | [a, b, c, d], _ => exact ⟨a, b, c, d, rfl⟩
theorem list5 {α : Type} {l : List α} (h : l.length = 5) : ∃ a b c d e, l = [a, b, c, d, e] := by
  match l, h with
  | [a, b, c, d, e], _ => exact ⟨a, b, c, d, e, rfl⟩
theorem list10 {α : Type} {l : List α} (h : l.length = 10) : ∃ a0 a1 a2 a3 a4 a5 a6 a7 a8 a9, l = [a0, a1, a2, a3, a4, a5, a6, a7, a8, a9] := by
  match l, h with
  | [a0, a1, a2, a3, a4, a5, a6, a7, a8, a9], _ => exact ⟨a0, a1, a2, a3, a4, a5, a6, a7, a8, a9, rfl⟩
end Go.Proofs.Ytmicbpeohfmepaa
