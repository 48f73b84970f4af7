/- Lists of messages that the call owns; append onto them; boxes of fourteen cells. -/
import Derived.Test.YtmicbpeohfmepaaTakesW
import Derived.Deep.RegionHeld3
namespace Go.Proofs.Ytmicbpeohfmepaa
open Go.RowKit
/-- The cells of a message without lists, in their order. -/
def mrow (kd fr t sq tm : Int) : List Value := [.int .i64 kd, .int .i64 fr, .int .i64 t, .int .i64 sq, .int .i64 tm, .int .i64 0, .int .i64 0, .slice none 0 0, .slice none 0 0, .int .i64 0, .int .i64 0, .int .i64 0, .int .i64 0, .bool false]
theorem mrow_length (kd fr t sq tm : Int) : (mrow kd fr t sq tm).length = 14 := rfl
/-- The cells of the messages that were sent, from number j on. -/
def mrows (fr t : Int) : Nat → List Int → List Value
  | _, [] => []
  | j, z :: l => mrow 5 fr t ((j : Int) + 1) z ++ mrows fr t (j + 1) l
theorem mrows_length (fr t : Int) : ∀ (l : List Int) (j : Nat), (mrows fr t j l).length = l.length * 14
  | [], _ => rfl
  | z :: l, j => by
    have := mrows_length fr t l (j + 1)
    simp only [mrows, List.length_append, mrow_length, this, List.length_cons]; omega
theorem mrows_append (fr t : Int) (m : List Int) : ∀ (l : List Int) (j : Nat), mrows fr t j (l ++ m) = mrows fr t j l ++ mrows fr t (j + l.length) m
  | [], j => by simp [mrows]
  | z :: l, j => by
    have := mrows_append fr t m l (j + 1)
    simp only [List.cons_append, mrows, this, List.append_assoc, List.length_cons]
    rw [show j + 1 + l.length = j + (l.length + 1) by omega]
theorem mrows_snoc (fr t : Int) (l : List Int) (k : Nat) (h : k < l.length) : mrows fr t 0 (l.take (k + 1)) = mrows fr t 0 (l.take k) ++ mrow 5 fr t ((k : Int) + 1) l[k] := by
  rw [List.take_succ_eq_append_getElem h, mrows_append]
  simp only [mrows, List.append_nil, List.length_take, Nat.zero_add]
  rw [Nat.min_eq_left (by omega)]
theorem mrows_at (fr t : Int) : ∀ (l : List Int) (j k i : Nat) (z : Int), l[k]? = some z → i < 14 → (mrows fr t j l)[k * 14 + i]? = (mrow 5 fr t (((j + k : Nat) : Int) + 1) z)[i]?
  | [], _, _, _, _, h, _ => by simp at h
  | z0 :: l, j, 0, i, z, h, hi => by
    simp at h; subst h
    simp only [mrows]
    rw [List.getElem?_append_left (by rw [mrow_length]; omega)]
    simp
  | z0 :: l, j, k + 1, i, z, h, hi => by
    have := mrows_at fr t l (j + 1) k i z (by simpa using h) hi
    simp only [mrows]
    rw [List.getElem?_append_right (by rw [mrow_length]; omega), mrow_length, show (k + 1) * 14 + i - 14 = k * 14 + i by omega, this, show j + 1 + k = j + (k + 1) by omega]
/-- A slice whose cells are us. -/
def RdV (w : World) (B : Nat) (A : Option Addr) (us : List Value) : Prop :=
  0 < us.length → ∃ b off, A = some ⟨b, off, none⟩ ∧ b < B ∧ ∀ i u, us[i]? = some u → w.cell? ⟨b, off + i, none⟩ = some u
theorem RdV.below {w w' : World} {B : Nat} {A : Option Addr} {us : List Value} (h : RdV w B A us) (hb : Below B w w') : RdV w' B A us := fun hn => by
  obtain ⟨b, off, e, hlt, hc⟩ := h hn
  exact ⟨b, off, e, hlt, fun i u hu => (hb.cell (p := ⟨b, off + i, none⟩) hlt).trans (hc i u hu)⟩
theorem RdV.more {w : World} {B B' : Nat} {A : Option Addr} {us : List Value} (h : RdV w B A us) (hB : B ≤ B') : RdV w B' A us := fun hn => by
  obtain ⟨b, off, e, hlt, hc⟩ := h hn
  exact ⟨b, off, e, by omega, hc⟩
theorem RdV.at_world {w W : World} {A : Option Addr} {us : List Value} (h : RdV w w.heap.size A us) (hB : Below w.heap.size w W) : RdV W W.heap.size A us := (h.below hB).more hB.size
theorem RdV.of_own {w : World} {base k m c : Nat} {A : Option Addr} {us : List Value} (h : w.ownsRow base 31 14 (.slice A m c) k us) : RdV w w.heap.size A us := fun hn => by
  have hl : us.length = k * 14 := h.1
  have hk : 0 < k := by rcases Nat.eq_zero_or_pos k with e | e; (subst e; omega); exact e
  obtain ⟨g, cap, hv, _, hlt⟩ := h.form hk
  have hA : A = some ⟨g, 0, none⟩ := by injection hv
  have hm : m = k := by injection hv
  subst hA hm
  refine ⟨g, 0, rfl, hlt, fun i z hz => ?_⟩
  have hi : i < us.length := (List.getElem?_eq_some_iff.1 hz).1
  rw [Nat.zero_add, h.cellAt i (show i < m * 14 by omega), hz]
theorem own_slice {w : World} {base k : Nat} {v : Value} {us : List Value} (h : w.ownsRow base 31 14 v k us) : ∃ A c, v = .slice A k c := by
  rcases h.2 with ⟨rfl, h0⟩ | ⟨g, cap, cur, rfl, _⟩
  · exact ⟨none, 0, by rw [h0]⟩
  · exact ⟨_, _, rfl⟩
theorem info31 : (Try.prog.info? 31).map (fun i => (i.zero, i.size, i.bytes)) = some (some (.agg #[.int .i64 0, .int .i64 0, .int .i64 0, .int .i64 0, .int .i64 0, .int .i64 0, .int .i64 0, .slice none 0 0, .slice none 0 0, .int .i64 0, .int .i64 0, .int .i64 0, .int .i64 0, .bool false]), 14, 144) := by kernel_rfl
theorem mrow_one (kd fr t sq tm : Int) : ∀ u ∈ mrow kd fr t sq tm, u.oneCell' = true := by
  intro u hu
  simp only [mrow, List.mem_cons, List.not_mem_nil, or_false] at hu
  rcases hu with rfl | rfl | rfl | rfl | rfl | rfl | rfl | rfl | rfl | rfl | rfl | rfl | rfl | rfl <;> rfl
/-- append of one message. -/
theorem wpList_snoc (w : World) {ops : Array Oper} {rest : List Oper} {o : Oper} {a : Act} {Q : Exit → Act → World → Prop} (hgd : o.guard = none) (s x : Operand) (ho : o.op = .call { callee := .builtin .append, args := #[s, x], argTypes := #[45, 45] })
    (base k : Nat) (v : Value) (us : List Value) (hs : a.eval s = v) (hown : w.ownsRow base 31 14 v k us) (g c' : Nat) (fr t sq tm : Int) (hx : a.eval x = .slice (some ⟨g, 0, none⟩) 1 c') (hB : Blk w g 31 (mrow 5 fr t sq tm).toArray) (hk : k ≤ 1000) (hbase : base ≤ w.heap.size)
    (h : ∀ v' w', w'.ownsRow base 31 14 v' (k + 1) (us ++ mrow 5 fr t sq tm) → w.grownBy w' v.ownBlock → (v'.ownBlock = v.ownBlock ∨ v'.ownBlock = some w.heap.size) → wpList Try.prog ops Q rest (a.put o.dst v') w') : wpList Try.prog ops Q (o :: rest) a w := by
  obtain ⟨i0, hi, hz0, hz1, hz2⟩ := info_parts info31
  refine wpList_append_own_at _ hgd s x 45 ho base 31 i0 _ 14 144 Try.underlying45 hi hz0 hz1 hz2 rfl (by omega) v k us hs hown ⟨g, 0, none⟩ 1 c' (mrow 5 fr t sq tm) hx rfl (fun j u hu => ?_) (mrow_one _ _ _ _ _) (by unfold maxLen; omega) (by omega) hbase ?_
  · have ha : (⟨g, 0, none⟩ : Addr).add j = ⟨g, j, none⟩ := by unfold Addr.add; split <;> simp_all
    rw [ha, hB.cell j, ← hu]
    simp
  · intro v' w' hown' hg _ hat
    exact h v' w' hown' hg hat
section
variable {w : World} {g : Nat} {t : TypeId} {v0 v1 v2 v3 v4 v5 v6 v7 v8 v9 v10 v11 v12 v13 : Value}
theorem Blk.cells14 (h : Blk w g t #[v0, v1, v2, v3, v4, v5, v6, v7, v8, v9, v10, v11, v12, v13]) :
    (w.cell? ⟨g, 0, none⟩ = some v0 ∧ w.cell? ⟨g, 1, none⟩ = some v1 ∧ w.cell? ⟨g, 2, none⟩ = some v2 ∧ w.cell? ⟨g, 3, none⟩ = some v3 ∧ w.cell? ⟨g, 4, none⟩ = some v4 ∧ w.cell? ⟨g, 5, none⟩ = some v5 ∧ w.cell? ⟨g, 6, none⟩ = some v6) ∧
    (w.cell? ⟨g, 7, none⟩ = some v7 ∧ w.cell? ⟨g, 8, none⟩ = some v8 ∧ w.cell? ⟨g, 9, none⟩ = some v9 ∧ w.cell? ⟨g, 10, none⟩ = some v10 ∧ w.cell? ⟨g, 11, none⟩ = some v11 ∧ w.cell? ⟨g, 12, none⟩ = some v12 ∧ w.cell? ⟨g, 13, none⟩ = some v13) :=
  ⟨⟨h.cell 0, h.cell 1, h.cell 2, h.cell 3, h.cell 4, h.cell 5, h.cell 6⟩, h.cell 7, h.cell 8, h.cell 9, h.cell 10, h.cell 11, h.cell 12, h.cell 13⟩
theorem Blk.free14 {cs : Array Value} (h : Blk w g t cs) :
    (w.frozen? ⟨g, 0, none⟩ = false ∧ w.frozen? ⟨g, 1, none⟩ = false ∧ w.frozen? ⟨g, 2, none⟩ = false ∧ w.frozen? ⟨g, 3, none⟩ = false ∧ w.frozen? ⟨g, 4, none⟩ = false ∧ w.frozen? ⟨g, 5, none⟩ = false ∧ w.frozen? ⟨g, 6, none⟩ = false) ∧
    (w.frozen? ⟨g, 7, none⟩ = false ∧ w.frozen? ⟨g, 8, none⟩ = false ∧ w.frozen? ⟨g, 9, none⟩ = false ∧ w.frozen? ⟨g, 10, none⟩ = false ∧ w.frozen? ⟨g, 11, none⟩ = false ∧ w.frozen? ⟨g, 12, none⟩ = false ∧ w.frozen? ⟨g, 13, none⟩ = false) :=
  ⟨⟨h.frozen 0, h.frozen 1, h.frozen 2, h.frozen 3, h.frozen 4, h.frozen 5, h.frozen 6⟩, h.frozen 7, h.frozen 8, h.frozen 9, h.frozen 10, h.frozen 11, h.frozen 12, h.frozen 13⟩
/-- Fourteen stores into a block. -/
def set14 (w : World) (g : Nat) (u0 u1 u2 u3 u4 u5 u6 u7 u8 u9 u10 u11 u12 u13 : Value) : World := ((((((((((((((w.setCell ⟨g, 0, none⟩ u0).setCell ⟨g, 1, none⟩ u1).setCell ⟨g, 2, none⟩ u2).setCell ⟨g, 3, none⟩ u3).setCell ⟨g, 4, none⟩ u4).setCell ⟨g, 5, none⟩ u5).setCell ⟨g, 6, none⟩ u6).setCell ⟨g, 7, none⟩ u7).setCell ⟨g, 8, none⟩ u8).setCell ⟨g, 9, none⟩ u9).setCell ⟨g, 10, none⟩ u10).setCell ⟨g, 11, none⟩ u11).setCell ⟨g, 12, none⟩ u12).setCell ⟨g, 13, none⟩ u13)
theorem Blk.set14 (h : Blk w g t #[v0, v1, v2, v3, v4, v5, v6, v7, v8, v9, v10, v11, v12, v13]) (u0 u1 u2 u3 u4 u5 u6 u7 u8 u9 u10 u11 u12 u13 : Value) : Blk (set14 w g u0 u1 u2 u3 u4 u5 u6 u7 u8 u9 u10 u11 u12 u13) g t #[u0, u1, u2, u3, u4, u5, u6, u7, u8, u9, u10, u11, u12, u13] := by
  have h0 : Blk (w.setCell ⟨g, 0, none⟩ u0) g t #[u0, v1, v2, v3, v4, v5, v6, v7, v8, v9, v10, v11, v12, v13] := h.set_ 0 u0
  have h1 : Blk ((w.setCell ⟨g, 0, none⟩ u0).setCell ⟨g, 1, none⟩ u1) g t #[u0, u1, v2, v3, v4, v5, v6, v7, v8, v9, v10, v11, v12, v13] := h0.set_ 1 u1
  have h2 : Blk (((w.setCell ⟨g, 0, none⟩ u0).setCell ⟨g, 1, none⟩ u1).setCell ⟨g, 2, none⟩ u2) g t #[u0, u1, u2, v3, v4, v5, v6, v7, v8, v9, v10, v11, v12, v13] := h1.set_ 2 u2
  have h3 : Blk ((((w.setCell ⟨g, 0, none⟩ u0).setCell ⟨g, 1, none⟩ u1).setCell ⟨g, 2, none⟩ u2).setCell ⟨g, 3, none⟩ u3) g t #[u0, u1, u2, u3, v4, v5, v6, v7, v8, v9, v10, v11, v12, v13] := h2.set_ 3 u3
  have h4 : Blk (((((w.setCell ⟨g, 0, none⟩ u0).setCell ⟨g, 1, none⟩ u1).setCell ⟨g, 2, none⟩ u2).setCell ⟨g, 3, none⟩ u3).setCell ⟨g, 4, none⟩ u4) g t #[u0, u1, u2, u3, u4, v5, v6, v7, v8, v9, v10, v11, v12, v13] := h3.set_ 4 u4
  have h5 : Blk ((((((w.setCell ⟨g, 0, none⟩ u0).setCell ⟨g, 1, none⟩ u1).setCell ⟨g, 2, none⟩ u2).setCell ⟨g, 3, none⟩ u3).setCell ⟨g, 4, none⟩ u4).setCell ⟨g, 5, none⟩ u5) g t #[u0, u1, u2, u3, u4, u5, v6, v7, v8, v9, v10, v11, v12, v13] := h4.set_ 5 u5
  have h6 : Blk (((((((w.setCell ⟨g, 0, none⟩ u0).setCell ⟨g, 1, none⟩ u1).setCell ⟨g, 2, none⟩ u2).setCell ⟨g, 3, none⟩ u3).setCell ⟨g, 4, none⟩ u4).setCell ⟨g, 5, none⟩ u5).setCell ⟨g, 6, none⟩ u6) g t #[u0, u1, u2, u3, u4, u5, u6, v7, v8, v9, v10, v11, v12, v13] := h5.set_ 6 u6
  have h7 : Blk ((((((((w.setCell ⟨g, 0, none⟩ u0).setCell ⟨g, 1, none⟩ u1).setCell ⟨g, 2, none⟩ u2).setCell ⟨g, 3, none⟩ u3).setCell ⟨g, 4, none⟩ u4).setCell ⟨g, 5, none⟩ u5).setCell ⟨g, 6, none⟩ u6).setCell ⟨g, 7, none⟩ u7) g t #[u0, u1, u2, u3, u4, u5, u6, u7, v8, v9, v10, v11, v12, v13] := h6.set_ 7 u7
  have h8 : Blk (((((((((w.setCell ⟨g, 0, none⟩ u0).setCell ⟨g, 1, none⟩ u1).setCell ⟨g, 2, none⟩ u2).setCell ⟨g, 3, none⟩ u3).setCell ⟨g, 4, none⟩ u4).setCell ⟨g, 5, none⟩ u5).setCell ⟨g, 6, none⟩ u6).setCell ⟨g, 7, none⟩ u7).setCell ⟨g, 8, none⟩ u8) g t #[u0, u1, u2, u3, u4, u5, u6, u7, u8, v9, v10, v11, v12, v13] := h7.set_ 8 u8
  have h9 : Blk ((((((((((w.setCell ⟨g, 0, none⟩ u0).setCell ⟨g, 1, none⟩ u1).setCell ⟨g, 2, none⟩ u2).setCell ⟨g, 3, none⟩ u3).setCell ⟨g, 4, none⟩ u4).setCell ⟨g, 5, none⟩ u5).setCell ⟨g, 6, none⟩ u6).setCell ⟨g, 7, none⟩ u7).setCell ⟨g, 8, none⟩ u8).setCell ⟨g, 9, none⟩ u9) g t #[u0, u1, u2, u3, u4, u5, u6, u7, u8, u9, v10, v11, v12, v13] := h8.set_ 9 u9
  have h10 : Blk (((((((((((w.setCell ⟨g, 0, none⟩ u0).setCell ⟨g, 1, none⟩ u1).setCell ⟨g, 2, none⟩ u2).setCell ⟨g, 3, none⟩ u3).setCell ⟨g, 4, none⟩ u4).setCell ⟨g, 5, none⟩ u5).setCell ⟨g, 6, none⟩ u6).setCell ⟨g, 7, none⟩ u7).setCell ⟨g, 8, none⟩ u8).setCell ⟨g, 9, none⟩ u9).setCell ⟨g, 10, none⟩ u10) g t #[u0, u1, u2, u3, u4, u5, u6, u7, u8, u9, u10, v11, v12, v13] := h9.set_ 10 u10
  have h11 : Blk ((((((((((((w.setCell ⟨g, 0, none⟩ u0).setCell ⟨g, 1, none⟩ u1).setCell ⟨g, 2, none⟩ u2).setCell ⟨g, 3, none⟩ u3).setCell ⟨g, 4, none⟩ u4).setCell ⟨g, 5, none⟩ u5).setCell ⟨g, 6, none⟩ u6).setCell ⟨g, 7, none⟩ u7).setCell ⟨g, 8, none⟩ u8).setCell ⟨g, 9, none⟩ u9).setCell ⟨g, 10, none⟩ u10).setCell ⟨g, 11, none⟩ u11) g t #[u0, u1, u2, u3, u4, u5, u6, u7, u8, u9, u10, u11, v12, v13] := h10.set_ 11 u11
  have h12 : Blk (((((((((((((w.setCell ⟨g, 0, none⟩ u0).setCell ⟨g, 1, none⟩ u1).setCell ⟨g, 2, none⟩ u2).setCell ⟨g, 3, none⟩ u3).setCell ⟨g, 4, none⟩ u4).setCell ⟨g, 5, none⟩ u5).setCell ⟨g, 6, none⟩ u6).setCell ⟨g, 7, none⟩ u7).setCell ⟨g, 8, none⟩ u8).setCell ⟨g, 9, none⟩ u9).setCell ⟨g, 10, none⟩ u10).setCell ⟨g, 11, none⟩ u11).setCell ⟨g, 12, none⟩ u12) g t #[u0, u1, u2, u3, u4, u5, u6, u7, u8, u9, u10, u11, u12, v13] := h11.set_ 12 u12
  have h13 : Blk ((((((((((((((w.setCell ⟨g, 0, none⟩ u0).setCell ⟨g, 1, none⟩ u1).setCell ⟨g, 2, none⟩ u2).setCell ⟨g, 3, none⟩ u3).setCell ⟨g, 4, none⟩ u4).setCell ⟨g, 5, none⟩ u5).setCell ⟨g, 6, none⟩ u6).setCell ⟨g, 7, none⟩ u7).setCell ⟨g, 8, none⟩ u8).setCell ⟨g, 9, none⟩ u9).setCell ⟨g, 10, none⟩ u10).setCell ⟨g, 11, none⟩ u11).setCell ⟨g, 12, none⟩ u12).setCell ⟨g, 13, none⟩ u13) g t #[u0, u1, u2, u3, u4, u5, u6, u7, u8, u9, u10, u11, u12, u13] := h12.set_ 13 u13
  exact h13
theorem Blk.far14 {cs : Array Value} (h : Blk w g t cs) {g' : Nat} (hg : g ≠ g') (u0 u1 u2 u3 u4 u5 u6 u7 u8 u9 u10 u11 u12 u13 : Value) : Blk (Proofs.Ytmicbpeohfmepaa.set14 w g' u0 u1 u2 u3 u4 u5 u6 u7 u8 u9 u10 u11 u12 u13) g t cs :=
  (((((((((((((h.far (by exact hg) u0).far (by exact hg) u1).far (by exact hg) u2).far (by exact hg) u3).far (by exact hg) u4).far (by exact hg) u5).far (by exact hg) u6).far (by exact hg) u7).far (by exact hg) u8).far (by exact hg) u9).far (by exact hg) u10).far (by exact hg) u11).far (by exact hg) u12).far (by exact hg) u13
end
theorem size_set14 (w : World) (g : Nat) (u0 u1 u2 u3 u4 u5 u6 u7 u8 u9 u10 u11 u12 u13 : Value) : (set14 w g u0 u1 u2 u3 u4 u5 u6 u7 u8 u9 u10 u11 u12 u13).heap.size = w.heap.size := by simp [set14, World.setCell]
/-- The world becomes a letter. -/
theorem to_letter {P : Program} {ops : Array Oper} {Q : Exit → Act → World → Prop} {md : Region.Mode} {S : World → Prop} {fuel : Nat} {listed : Array Bool} {a : Act} {W : World} (R : World → Prop) (hR : R W) (h : ∀ V, R V → wpAnyH P md ops Q S fuel listed a V) : wpAnyH P md ops Q S fuel listed a W := h W hR
end Go.Proofs.Ytmicbpeohfmepaa
