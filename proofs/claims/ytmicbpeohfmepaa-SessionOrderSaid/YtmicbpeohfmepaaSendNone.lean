/- Send of a message without lists: the lists of the message that is handed back are nil. -/
import Derived.Test.YtmicbpeohfmepaaTake
import Derived.Test.YtmicbpeohfmepaaSend
namespace Go.Proofs.Ytmicbpeohfmepaa
open Go.RowKit
theorem none19 (w : World) : Calls Try.prog 19 #[.slice none 0 0] w fun e w' => e = .returned (.slice none 0 0) ∧ w = w' := by
  obtain ⟨i0, hi, hz0, hz1, hz2⟩ := info_parts info52
  have hr : ∀ W : World, (Builtin.append_ #[24, 24] 24 #[.slice none 0 0, .slice none 0 0]).run Try.prog W = .ok (.slice none 0 0) W := fun W => by
    simp [Builtin.append_, run_underlying Try.underlying24, sizeOf, typeInfo, hi, Builtin.lenOf, Builtin.firstCells]
  clear hi hz0 hz1 hz2
  go_enter Try.func19, Try.ntmps19
  go_wp2_with (first | (at_builtin; refine wpList_plain rfl fun K hK => ?_; unfold Oper.wp execOp; simp only [resolve, invoke, builtin, Sem.run_bind, Sem.run_pure, Result.andThen_ok, List.map_toArray, List.map_cons, List.map_nil, Act.eval]; (first | rw [hr] | (erw [hr])); refine hK _ _ ?_))
  go_ret
  exact ⟨rfl, rfl⟩
theorem none20 (w : World) : Calls Try.prog 20 #[.slice none 0 0] w fun e w' => e = .returned (.slice none 0 0) ∧ w = w' := by
  obtain ⟨i0, hi, hz0, hz1, hz2⟩ := info_parts info55
  have hr : ∀ W : World, (Builtin.append_ #[25, 25] 25 #[.slice none 0 0, .slice none 0 0]).run Try.prog W = .ok (.slice none 0 0) W := fun W => by
    simp [Builtin.append_, run_underlying Try.underlying25, sizeOf, typeInfo, hi, Builtin.lenOf, Builtin.firstCells]
  clear hi hz0 hz1 hz2
  go_enter Try.func20, Try.ntmps20
  go_wp2_with (first | (at_builtin; refine wpList_plain rfl fun K hK => ?_; unfold Oper.wp execOp; simp only [resolve, invoke, builtin, Sem.run_bind, Sem.run_pure, Result.andThen_ok, List.map_toArray, List.map_cons, List.map_nil, Act.eval]; (first | rw [hr] | (erw [hr])); refine hK _ _ ?_))
  go_ret
  exact ⟨rfl, rfl⟩
set_option maxHeartbeats 8000000 in
theorem send_none (p o i h kd fr now : Int) (w : World) (h1 : o < 1073741824) (ho : InI o) :
    Calls Try.prog 10 #[.agg #[.int .i64 p, .int .i64 o, .int .i64 i, .int .i64 h], .agg #[.int .i64 kd, .int .i64 fr, .int .i64 0, .int .i64 0, .int .i64 0, .int .i64 0, .int .i64 0, .slice none 0 0, .slice none 0 0, .int .i64 0, .int .i64 0, .int .i64 0, .int .i64 0, .bool false], .int .i64 now] w fun e w' =>
      e = .returned (.tuple #[.agg #[.int .i64 p, .int .i64 (o + 1), .int .i64 i, .int .i64 h], .agg #[.int .i64 kd, .int .i64 fr, .int .i64 p, .int .i64 (o + 1), .int .i64 now, .int .i64 0, .int .i64 0, .slice none 0 0, .slice none 0 0, .int .i64 0, .int .i64 0, .int .i64 0, .int .i64 0, .bool false]]) ∧ Below w.heap.size w w' := by
  unfold InI at ho
  go_enter Try.func10, Try.ntmps10
  go_wp2
  go_region
  go_wp2_with fail
  refine (none19 _).mono ?_
  rintro e w1 ⟨rfl, rfl⟩
  go_wp2_with fail
  refine (none20 _).mono ?_
  rintro e w2 ⟨rfl, rfl⟩
  go_wp2_with fail
  go_region
  go_wp2
  exact bodyPost_ret (v := .tuple #[.agg #[.int .i64 p, .int .i64 (o + 1), .int .i64 i, .int .i64 h], .agg #[.int .i64 kd, .int .i64 fr, .int .i64 p, .int .i64 (o + 1), .int .i64 now, .int .i64 0, .int .i64 0, .slice none 0 0, .slice none 0 0, .int .i64 0, .int .i64 0, .int .i64 0, .int .i64 0, .bool false]]) (by simp [results, Try.results10, go_sem]) rfl ⟨rfl, (below4 _ _ _ _ _).drew⟩
end Go.Proofs.Ytmicbpeohfmepaa
