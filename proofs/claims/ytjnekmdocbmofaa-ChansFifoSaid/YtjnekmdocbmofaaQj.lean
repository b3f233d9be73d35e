/- The examples of the queue, walked. -/
import Derived.Test.YtjnekmdocbmofaaQi
namespace Go.Proofs.Ytjnekmdocbmofaa
set_option linter.unusedSimpArgs false
set_option linter.unusedVariables false
open Go.RowKit Go.Shelf

theorem Turn.size' {S : Nat → Prop} {B : Nat} {w w' : World} (t : Turn S w w') (h : B ≤ w.heap.size) : B ≤ w'.heap.size := Nat.le_trans h t.size

theorem below_turn_q {B b : Nat} {a w w' : World} (h : Below B a w) (t : Turn (QIn b) w w') (hb : B ≤ b) (hB : B ≤ a.heap.size) : Below B a w' :=
  Turn.below h t (fun k hk => by cases hk; exact hb) (Nat.le_trans hB h.size)
theorem below_turn_n {B : Nat} {a w w' : World} (h : Below B a w) (t : Turn Nn w w') (hB : B ≤ a.heap.size) : Below B a w' :=
  Turn.below h t (fun k hk => hk.elim) (Nat.le_trans hB h.size)

theorem SlI.new2 (w : World) (x y : Int) : SlI (w.alloc (.cells #[.int .i64 x, .int .i64 y] 2)) (.slice (some ⟨w.heap.size, 0, none⟩) 2 2) [x, y] :=
  .inr ⟨_, 0, 2, rfl, by simp, fun i hi => by
    rw [Nat.zero_add, cell_blk (World.alloc_heap_new w _)]
    match i, hi with
    | 0, _ => rfl
    | 1, _ => rfl⟩

theorem SlI.alloc {w v L} (h : SlI w v L) (o : Obj) : SlI (w.alloc o) v L := by
  rcases h with h | ⟨b, of, c, h1, h2, h3⟩
  · exact .inl h
  · refine .inr ⟨b, of, c, h1, h2, fun i hi => ?_⟩
    have := h3 i hi
    rw [World.cell?_alloc_lt _ _ _ (World.block_lt_of_cell? _ _ this)]
    exact this

set_option maxRecDepth 100000 in
set_option maxHeartbeats 4000000 in
theorem works20 (HR : RowsSaid) (w : World) :
    Calls Try.prog 13 #[] w fun e w' => e = .returned (.bool true) ∧ Below w.heap.size w w' := by
  go_enter Try.func13, Try.ntmps13
  go_wp2_with fail
  refine (new_ok 2 w (by omega) (by omega)).mono ?_
  rintro e w1 ⟨rfl, hw1⟩
  have q1 : QIs w1 w.heap.size [] 2 := by rw [hw1]; exact QIs.new (by omega) (by omega)
  have b1 : Below w.heap.size w w1 := by rw [hw1]; exact (Below.refl _ _).alloc (Nat.le_refl _) _
  clear hw1
  go_wp2_with fail
  refine (putq_ok q1 7 (by simp)).mono ?_
  rintro e w2 ⟨rfl, q2, t2⟩
  have b2 := below_turn_q b1 t2 (Nat.le_refl _) (Nat.le_refl _)
  clear q1 t2 b1
  go_wp2_with fail
  refine (putq_ok q2 8 (by simp)).mono ?_
  rintro e w3 ⟨rfl, q3, t3⟩
  have b3 := below_turn_q b2 t3 (Nat.le_refl _) (Nat.le_refl _)
  clear q2 t3 b2
  go_wp2_with fail
  refine (putq_full q3 9 (by simp)).mono ?_
  rintro e w4 ⟨rfl, q4, t4⟩
  have b4 := below_turn_q b3 t4 (Nat.le_refl _) (Nat.le_refl _)
  clear q3 t4 b3
  go_wp2_with fail
  refine (fullq q4).mono ?_
  rintro e w5 ⟨rfl, k, rfl⟩
  go_wp2_with fail
  refine (takeq_ok (q4.drewN k)).mono ?_
  rintro e w6 ⟨rfl, q6, t6⟩
  have b6 := below_turn_q (below_drewN b4 k) t6 (Nat.le_refl _) (Nat.le_refl _)
  clear q4 t6 b4
  go_wp2_with fail
  refine (putq_ok q6 9 (by simp)).mono ?_
  rintro e w7 ⟨rfl, q7, t7⟩
  have b7 := below_turn_q b6 t7 (Nat.le_refl _) (Nat.le_refl _)
  clear q6 t7 b6
  go_wp2_with fail
  refine (listq HR q7).mono ?_
  rintro e w8 ⟨⟨v8, rfl, n8⟩, t8⟩
  have b8 := below_turn_n b7 t8 (Nat.le_refl _)
  have q8 := q7.turn t8 (fun h => h)
  have hlt := q7.lt
  have hq : ¬ QIn w.heap.size w7.heap.size := fun h => by have : w7.heap.size = w.heap.size := h; omega
  clear q7 t8 b7
  go_wp2_with fail
  refine (takeq_ok q8).mono ?_
  rintro e w9 ⟨rfl, q9, t9⟩
  have b9 := below_turn_q b8 t9 (Nat.le_refl _) (Nat.le_refl _)
  have n9 := n8.turn t9 hq
  clear q8 t9 b8 n8
  go_wp2_with fail
  refine (takeq_ok q9).mono ?_
  rintro e w10 ⟨rfl, q10, t10⟩
  have b10 := below_turn_q b9 t10 (Nat.le_refl _) (Nat.le_refl _)
  have n10 := n9.turn t10 hq
  clear q9 t10 b9 n9
  go_wp2_with fail
  refine (takeq_empty q10).mono ?_
  rintro e w11 ⟨rfl, q11, t11⟩
  have b11 := below_turn_q b10 t11 (Nat.le_refl _) (Nat.le_refl _)
  have n11 := n10.turn t11 hq
  clear q10 t11 b10 n10
  go_wp2_with fail
  refine (words20_same (n11.sl.alloc _) (SlI.new2 w11 8 9) (by simp)).mono ?_
  rintro e w12 ⟨rfl, k12, rfl⟩
  have b12 := below_drewN (b11.alloc b11.size (.cells #[.int .i64 8, .int .i64 9] 2)) k12
  have q12 : QIs ((w11.alloc (.cells #[.int .i64 8, .int .i64 9] 2)).drewN k12) w.heap.size [] 2 := q11.turn ((Turn.refl Nn _).alloc _ |>.drewN k12) (fun h => h)
  go_wp2_with fail
  refine (lenq q12).mono ?_
  rintro e w13 ⟨rfl, k13, rfl⟩
  go_wp2_with fail
  go_ret
  exact ⟨rfl, below_drewN (b11.alloc b11.size _) _⟩
end Go.Proofs.Ytjnekmdocbmofaa
