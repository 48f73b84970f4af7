/- Contracts of the small functions of chapter 38 (session) and of its reference. -/
import Derived.Test.YtmicbpeohfmepaaChecked
import Derived.Test.YtmicbpeohfmepaaPlain
import Derived.WalkLawsBesides
import Derived.WalkSpells
import Derived.Outline
import Derived.Lib.Hide
import Derived.OwnWalk
import Derived.Maps.AppendAt
import Derived.RegionTactic
import Derived.Deep.QuietTactic
import Derived.BigQuiet
namespace Go.Proofs.Ytmicbpeohfmepaa
open Go.RowKit

/-- A session as a value. -/
def sesV (p o i h : Int) : Array Value := #[.int .i64 p, .int .i64 o, .int .i64 i, .int .i64 h]

theorem recent_any (t n l : Int) (w : World) (ht : InI t) (hn : InI n) (hl : 0 ≤ l ∧ l ≤ 100) : Calls Try.prog 22 #[.int .i64 t, .int .i64 n, .int .i64 l] w fun e w' => e = .returned (.bool (recB t n l)) ∧ w = w' := by
  by_cases h : t ≤ n
  · have H := Lib.hid (u64_diff t n l ht hn h hl)
    clear ht hn hl
    go_enter Try.func22, Try.ntmps22
    go_wp2
    go_ret
    exact ⟨ret_bool H.out, rfl⟩
  · have H := Lib.hid (rec_no t n l h)
    clear ht hn hl
    go_enter Try.func22, Try.ntmps22
    go_wp2
    go_ret
    exact ⟨ret_bool H.out, rfl⟩
theorem within_any (t n l : Int) (w : World) (ht : InI t) (hn : InI n) (hl : 0 ≤ l ∧ l ≤ 100) : Calls Try.prog 23 #[.int .i64 t, .int .i64 n, .int .i64 l] w fun e w' => e = .returned (.bool (recB t n l)) ∧ w = w' := by
  by_cases h : t ≤ n
  · have H := Lib.hid (u64_diff t n l ht hn h hl)
    clear ht hn hl
    go_enter Try.func23, Try.ntmps23
    go_wp2
    go_ret
    exact ⟨ret_bool H.out, rfl⟩
  · have H := Lib.hid (rec_no t n l h)
    clear ht hn hl
    go_enter Try.func23, Try.ntmps23
    go_wp2
    go_ret
    exact ⟨ret_bool H.out, rfl⟩

theorem new_any (p n : Int) (w : World) : Calls Try.prog 12 #[.int .i64 p, .int .i64 n] w fun e w' => e = .returned (.agg #[.int .i64 p, .int .i64 0, .int .i64 0, .int .i64 n]) ∧ Below w.heap.size w w' := by
  go_enter Try.func12, Try.ntmps12
  go_wp2
  exact bodyPost_ret (v := .agg #[.int .i64 p, .int .i64 0, .int .i64 0, .int .i64 n]) (by simp [results, Try.results12, go_sem]) rfl ⟨rfl, (Below.refl _ _).alloc (Nat.le_refl _) _⟩
theorem newR_any (p n : Int) (w : World) : Calls Try.prog 13 #[.int .i64 p, .int .i64 n] w fun e w' => e = .returned (.agg #[.int .i64 p, .int .i64 0, .int .i64 0, .int .i64 n]) ∧ Below w.heap.size w w' := by
  go_enter Try.func13, Try.ntmps13
  go_wp2
  exact bodyPost_ret (v := .agg #[.int .i64 p, .int .i64 0, .int .i64 0, .int .i64 n]) (by simp [results, Try.results13, go_sem]) rfl ⟨rfl, (Below.refl _ _).alloc (Nat.le_refl _) _⟩

theorem alivF_any (p o i h n : Int) (w : World) (hh : InI h) (hn : InI n) : Calls Try.prog 17 #[.agg #[.int .i64 p, .int .i64 o, .int .i64 i, .int .i64 h], .int .i64 n] w fun e w' => e = .returned (.bool (recB h n 6)) ∧ Below w.heap.size w w' := by
  go_enter Try.func17, Try.ntmps17
  go_wp2_with fail
  refine (recent_any h n 6 _ hh hn (by omega)).mono ?_
  rintro e w' ⟨rfl, rfl⟩
  go_wp2_with fail
  go_ret
  exact ⟨rfl, (Below.refl _ _).alloc (Nat.le_refl _) _⟩
theorem alivR_any (p o i h n : Int) (w : World) (hh : InI h) (hn : InI n) : Calls Try.prog 18 #[.agg #[.int .i64 p, .int .i64 o, .int .i64 i, .int .i64 h], .int .i64 n] w fun e w' => e = .returned (.bool (recB h n 6)) ∧ Below w.heap.size w w' := by
  go_enter Try.func18, Try.ntmps18
  go_wp2_with fail
  refine (within_any h n 6 _ hh hn (by omega)).mono ?_
  rintro e w' ⟨rfl, rfl⟩
  go_wp2_with fail
  go_ret
  exact ⟨rfl, (Below.refl _ _).alloc (Nat.le_refl _) _⟩

theorem info52 : (Try.prog.info? 52).map (fun i => (i.zero, i.size, i.bytes)) = some (some (.agg #[.int .i64 0, .int .i64 0, .int .i64 0, .int .i64 0]), 4, 32) := by kernel_rfl
theorem info55 : (Try.prog.info? 55).map (fun i => (i.zero, i.size, i.bytes)) = some (some (.agg #[.int .i64 0, .int .i64 0]), 2, 16) := by kernel_rfl
theorem ints_one (l : List Int) : ∀ u ∈ l.map (Value.int .i64), u.oneCell' = true := by
  intro u hu
  obtain ⟨z, _, rfl⟩ := List.mem_map.1 hu
  rfl
/-- What 'copied' leaves. -/
def Copied (n : Nat) (zs : List Int) (w : World) (e : Ending) (w' : World) : Prop := ∃ A, e = .returned (.slice A n n) ∧ RdF w' w'.heap.size A zs ∧ Below w.heap.size w w' ∧ ∀ b off, A = some ⟨b, off, none⟩ → w.heap.size ≤ b
theorem RdF.empty {w : World} {B : Nat} {A : Option Addr} {l : List Int} (h : l.length = 0) : RdF w B A l := fun hn => by omega

/-- append of a slice that is not empty onto nil. -/
theorem wpList_cp (w : World) {ops : Array Oper} {rest : List Oper} {o : Oper} {a : Act} {Q : Exit → Act → World → Prop} (hgd : o.guard = none) (s x : Operand) (t e : TypeId) (ho : o.op = .call { callee := .builtin .append, args := #[s, x], argTypes := #[t, t] })
    (z : Value) (size bytes : Nat) (ht : Try.prog.underlying t = some (.slice e)) (hinfo : (Try.prog.info? e).map (fun i => (i.zero, i.size, i.bytes)) = some (some z, size, bytes)) (hzs : z.cells.size = size) (hsz : 0 < size) (hby : bytes ≤ 1000)
    (hs : a.eval s = .slice none 0 0) (b off n c : Nat) (zs : List Int) (hx : a.eval x = .slice (some ⟨b, off, none⟩) n c) (hz : zs.length = n * size) (hn : 0 < n) (hn' : n ≤ 200) (hr : RdF w w.heap.size (some ⟨b, off, none⟩) zs)
    (h : ∀ g cap w', w.heap.size ≤ g → RdF w' w'.heap.size (some ⟨g, 0, none⟩) zs → n ≤ cap → Below w.heap.size w w' → wpList Try.prog ops Q rest (a.put o.dst (.slice (some ⟨g, 0, none⟩) n cap)) w') : wpList Try.prog ops Q (o :: rest) a w := by
  obtain ⟨i0, hi, hz0, hz1, hz2⟩ := info_parts hinfo
  refine wpList_append_own_at _ hgd s x t ho w.heap.size e i0 z size bytes ht hi hz0 hz1 hz2 hzs hsz (.slice none 0 0) 0 [] hs (World.ownsRow_nil _ _ _ _) ⟨b, off, none⟩ n c (zs.map (Value.int .i64)) hx (by rw [List.length_map]; exact hz) hr.add_ (ints_one zs) (by unfold maxLen; omega) (by have : (0 + n) * bytes ≤ 200 * 1000 := Nat.mul_le_mul (by omega) hby; omega) (Nat.le_refl _) ?_
  intro v' w' hown hg _ _
  have hb : Below w.heap.size w w' := (Below.refl _ _).grown hg (Nat.le_refl _) (fun j hj => by cases hj)
  rcases hown.2 with ⟨_, h0⟩ | ⟨g, cap, cur, rfl, hbg, _, hc, _⟩
  · omega
  · have hown' : w'.ownsRow w.heap.size e size (.slice (some ⟨g, 0, none⟩) (0 + n) cap) (0 + n) (zs.map (Value.int .i64)) := by simpa using hown
    have := h g cap w' hbg (RdF.of_own hown') (by omega) hb
    simpa using this

set_option maxHeartbeats 1000000 in
theorem copied19 (A : Option Addr) (n c : Nat) (zs : List Int) (w : World) (hz : zs.length = n * 4) (hn : n ≤ 200) (hA : RdF w w.heap.size A zs) :
    Calls Try.prog 19 #[.slice A n c] w (Copied n zs w) := by
  by_cases h0 : n = 0
  · subst h0
    obtain ⟨i0, hi, hz0, hz1, hz2⟩ := info_parts info52
    have hr : ∀ W : World, (Builtin.append_ #[24, 24] 24 #[.slice none 0 0, .slice A 0 c]).run Try.prog W = .ok (.slice none 0 0) W := fun W => by
      cases A with
      | none => simp [Builtin.append_, run_underlying Try.underlying24, sizeOf, typeInfo, hi, Builtin.lenOf, Builtin.firstCells]
      | some ad => simp [Builtin.append_, run_underlying Try.underlying24, sizeOf, typeInfo, hi, Builtin.lenOf, Builtin.firstCells, loadCells, loadCellsFrom]
    have HZ := Lib.hid hz
    clear hz hA hi hz0 hz1 hz2
    go_enter Try.func19, Try.ntmps19
    go_wp2_with (first | (at_builtin; refine wpList_plain rfl fun K hK => ?_; unfold Oper.wp execOp; simp only [resolve, invoke, builtin, Sem.run_bind, Sem.run_pure, Result.andThen_ok, List.map_toArray, List.map_cons, List.map_nil, Act.eval]; (first | rw [hr] | (erw [hr])); refine hK _ _ ?_))
    go_ret
    exact ⟨none, rfl, RdF.empty (by have := HZ.out; omega), Below.refl _ _, fun _ _ h => by cases h⟩
  · obtain ⟨b, off, rfl, hb, _⟩ := hA (by omega)
    have HA := Lib.hid hA
    have HZ := Lib.hid hz
    clear hA hz
    have i0 : (0 : Int) ≤ (n : Int) := by omega
    go_enter Try.func19, Try.ntmps19
    go_wp2_with (first | (at_builtin; refine wpList_cp _ rfl _ _ 24 52 rfl (.agg #[.int .i64 0, .int .i64 0, .int .i64 0, .int .i64 0]) 4 32 Try.underlying24 info52 rfl (by decide) (by decide) rfl b off n c zs rfl HZ.out (by omega) hn HA.out ?_; intro g cap w1 hg hR hcap hb1; have i1 : (n : Int) ≤ (cap : Int) := (by omega)))
    go_ret
    exact ⟨_, rfl, hR, hb1, fun _ _ h => by injection h with h; injection h with h; omega⟩
set_option maxHeartbeats 1000000 in
theorem copied20 (A : Option Addr) (n c : Nat) (zs : List Int) (w : World) (hz : zs.length = n * 2) (hn : n ≤ 200) (hA : RdF w w.heap.size A zs) :
    Calls Try.prog 20 #[.slice A n c] w (Copied n zs w) := by
  by_cases h0 : n = 0
  · subst h0
    obtain ⟨i0, hi, hz0, hz1, hz2⟩ := info_parts info55
    have hr : ∀ W : World, (Builtin.append_ #[25, 25] 25 #[.slice none 0 0, .slice A 0 c]).run Try.prog W = .ok (.slice none 0 0) W := fun W => by
      cases A with
      | none => simp [Builtin.append_, run_underlying Try.underlying25, sizeOf, typeInfo, hi, Builtin.lenOf, Builtin.firstCells]
      | some ad => simp [Builtin.append_, run_underlying Try.underlying25, sizeOf, typeInfo, hi, Builtin.lenOf, Builtin.firstCells, loadCells, loadCellsFrom]
    have HZ := Lib.hid hz
    clear hz hA hi hz0 hz1 hz2
    go_enter Try.func20, Try.ntmps20
    go_wp2_with (first | (at_builtin; refine wpList_plain rfl fun K hK => ?_; unfold Oper.wp execOp; simp only [resolve, invoke, builtin, Sem.run_bind, Sem.run_pure, Result.andThen_ok, List.map_toArray, List.map_cons, List.map_nil, Act.eval]; (first | rw [hr] | (erw [hr])); refine hK _ _ ?_))
    go_ret
    exact ⟨none, rfl, RdF.empty (by have := HZ.out; omega), Below.refl _ _, fun _ _ h => by cases h⟩
  · obtain ⟨b, off, rfl, hb, _⟩ := hA (by omega)
    have HA := Lib.hid hA
    have HZ := Lib.hid hz
    clear hA hz
    have i0 : (0 : Int) ≤ (n : Int) := by omega
    go_enter Try.func20, Try.ntmps20
    go_wp2_with (first | (at_builtin; refine wpList_cp _ rfl _ _ 25 55 rfl (.agg #[.int .i64 0, .int .i64 0]) 2 16 Try.underlying25 info55 rfl (by decide) (by decide) rfl b off n c zs rfl HZ.out (by omega) hn HA.out ?_; intro g cap w1 hg hR hcap hb1; have i1 : (n : Int) ≤ (cap : Int) := (by omega)))
    go_ret
    exact ⟨_, rfl, hR, hb1, fun _ _ h => by injection h with h; injection h with h; omega⟩
end Go.Proofs.Ytmicbpeohfmepaa
