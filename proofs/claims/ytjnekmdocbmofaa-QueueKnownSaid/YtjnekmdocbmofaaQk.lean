/- The queue's closed law, walked. -/
import Derived.Test.YtjnekmdocbmofaaQj
import Derived.Test.YtjnekmdocbmofaaQd
namespace Go.Proofs.Ytjnekmdocbmofaa
set_option linter.unusedSimpArgs false
set_option linter.unusedVariables false
open Go.RowKit Go.Shelf

set_option maxHeartbeats 1000000 in
theorem take_nil (w : World) : Calls Try.prog 16 #[.pointer none] w fun e w' => e = .returned (.tuple #[.int .i64 0, .int .i64 1]) ∧ w = w' := by
  go_enter Try.func16, Try.ntmps16
  go_wp2
  go_ret2
  exact ⟨rfl, rfl⟩
set_option maxHeartbeats 1000000 in
theorem put_nil (x : Int) (w : World) : Calls Try.prog 14 #[.pointer none, .int .i64 x] w fun e w' => e = .returned (.int .i64 1) ∧ w = w' := by
  go_enter Try.func14, Try.ntmps14
  go_wp2
  go_ret
  exact ⟨rfl, rfl⟩
set_option maxHeartbeats 1000000 in
theorem len_nil (w : World) : Calls Try.prog 18 #[.pointer none] w fun e w' => e = .returned (.int .i64 0) ∧ w = w' := by
  go_enter Try.func18, Try.ntmps18
  go_wp2
  go_ret
  exact ⟨rfl, rfl⟩
set_option maxHeartbeats 1000000 in
theorem full_nil (w : World) : Calls Try.prog 19 #[.pointer none] w fun e w' => e = .returned (.bool true) ∧ ∃ k, w' = w.drewN k := by
  go_enter Try.func19, Try.ntmps19
  go_wp2
  go_quiet (fail)
  go_wp2
  go_ret
  exact ⟨rfl, _, rfl⟩
set_option maxHeartbeats 1000000 in
theorem list_nil (w : World) : Calls Try.prog 22 #[.pointer none] w fun e w' => e = .returned (.slice none 0 0) ∧ w = w' := by
  go_enter Try.func22, Try.ntmps22
  go_wp2_with fail
  refine (len_nil w).mono ?_
  rintro e w' ⟨rfl, rfl⟩
  go_wp2
  go_ret
  exact ⟨rfl, rfl⟩

set_option maxRecDepth 100000 in
set_option maxHeartbeats 4000000 in
theorem known20 (w : World) : Calls Try.prog 6 #[] w fun e w' => e = .returned (.bool true) ∧ Below w.heap.size w w' := by
  go_enter Try.func6, Try.ntmps6
  go_wp2_with fail
  refine (take_nil w).mono ?_
  rintro e w' ⟨rfl, rfl⟩
  go_wp2_with fail
  refine (new_ok 1 w (by omega) (by omega)).mono ?_
  rintro e w1 ⟨rfl, hw1⟩
  have q1 : QIs w1 w.heap.size [] 1 := by rw [hw1]; exact QIs.new (by omega) (by omega)
  have b1 : Below w.heap.size w w1 := by rw [hw1]; exact (Below.refl _ _).alloc (Nat.le_refl _) _
  clear hw1
  go_wp2_with fail
  refine (new_bad 0 w1 (by omega)).mono ?_
  rintro e w' ⟨rfl, rfl⟩
  go_wp2_with fail
  refine (new_bad (-1) w1 (by omega)).mono ?_
  rintro e w' ⟨rfl, rfl⟩
  go_wp2_with fail
  refine (new_bad 17 w1 (by omega)).mono ?_
  rintro e w' ⟨rfl, rfl⟩
  go_wp2_with fail
  refine (new_ok 16 w1 (by omega) (by omega)).mono ?_
  rintro e w2 ⟨rfl, hw2⟩
  have q2 : QIs w2 w.heap.size [] 1 := by rw [hw2]; exact q1.turn ((Turn.refl Nn _).alloc _) (fun h => h)
  have b2 : Below w.heap.size w w2 := by rw [hw2]; exact b1.alloc b1.size _
  clear hw2
  go_wp2_with fail
  refine (putq_ok q2 (-9223372036854775808) (by simp)).mono ?_
  rintro e w3 ⟨rfl, q3, t3⟩
  have b3 := below_turn_q b2 t3 (Nat.le_refl _) (Nat.le_refl _)
  clear q2 t3 b2
  go_wp2_with fail
  refine (fullq q3).mono ?_
  rintro e w' ⟨rfl, k3, rfl⟩
  go_wp2_with fail
  refine (takeq_ok (q3.drewN k3)).mono ?_
  rintro e w4 ⟨rfl, q4, t4⟩
  have b4 := below_turn_q (below_drewN b3 k3) t4 (Nat.le_refl _) (Nat.le_refl _)
  clear q3 t4 b3
  go_wp2_with fail
  refine (works20 rowsSaid w4).mono ?_
  rintro e w5 ⟨rfl, h5⟩
  have b5 : Below w.heap.size w w5 := b4.trans (h5.mono b4.size)
  have q5 : QIs w5 w.heap.size [] 1 := q4.eqb (h5.block _ q4.lt)
  clear q4 b4 h5
  go_wp2_with fail
  refine (put_nil 1 w5).mono ?_
  rintro e w' ⟨rfl, rfl⟩
  go_wp2_with fail
  refine (len_nil w5).mono ?_
  rintro e w' ⟨rfl, rfl⟩
  go_wp2_with fail
  refine (full_nil w5).mono ?_
  rintro e w' ⟨rfl, k5, rfl⟩
  go_wp2_with fail
  refine (list_nil _).mono ?_
  rintro e w' ⟨rfl, rfl⟩
  go_wp2_with fail
  refine (fullq (q5.drewN k5)).mono ?_
  rintro e w' ⟨rfl, k6, rfl⟩
  go_wp2_with fail
  refine (listq rowsSaid (q5.drewN _)).mono ?_
  rintro e w7 ⟨⟨v7, rfl, n7⟩, t7⟩
  have b7 := below_turn_n (below_drewN b5 (k5 + k6)) t7 (Nat.le_refl _)
  obtain ⟨a7, c7, rfl⟩ : ∃ a c, v7 = .slice a 0 c := by
    rcases n7 with ⟨_, rfl⟩ | ⟨rfl, _⟩ <;> exact ⟨_, _, rfl⟩
  go_wp2_with fail
  go_ret
  exact ⟨rfl, b7⟩
end Go.Proofs.Ytjnekmdocbmofaa
