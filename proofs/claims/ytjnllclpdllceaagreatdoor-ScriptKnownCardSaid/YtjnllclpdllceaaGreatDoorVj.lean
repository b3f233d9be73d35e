/- drafted: a turn more in the script under way. -/
import Derived.Test.YtjnllclpdllceaaGreatDoorVh
import Derived.Test.YtjnllclpdllceaaGreatDoorHa
namespace Go.Proofs.YtjnllclpdllceaaGreatDoor
set_option linter.unusedSimpArgs false
set_option linter.unusedVariables false
open Go.RowKit Go.Shelf

/-- The script under way: its block is the first behind w2. -/
structure DI (w2 : World) (x0 x1 x2 x3 x4 v : Value) (ts : List TurnD) (W : World) : Prop where
  blk : W.heap[w2.heap.size]? = some (.cells #[x0, x1, x2, x3, x4, v] 26)
  own : W.ownsRow (w2.heap.size + 1) 60 3 v ts.length (turnCells ts)
  t : Turn Nn w2 W

theorem DI.apart {w2 W : World} {x0 x1 x2 x3 x4 v : Value} {ts : List TurnD} (h : DI w2 x0 x1 x2 x3 x4 v ts W) : v.ownBlock ≠ some w2.heap.size := fun e => by
  have := (h.own.lt _ e).1
  omega

theorem DI.turn {w2 W W' : World} {x0 x1 x2 x3 x4 v : Value} {ts : List TurnD} (h : DI w2 x0 x1 x2 x3 x4 v ts W) (t : Turn Nn W W') : DI w2 x0 x1 x2 x3 x4 v ts W' :=
  ⟨(t.block _ (heap_lt h.blk) (fun h => h)).trans h.blk, ownsRow_turn h.own t, h.t.trans t⟩

theorem DI.shape {w2 W : World} {x0 x1 x2 x3 x4 v : Value} {ts : List TurnD} (h : DI w2 x0 x1 x2 x3 x4 v ts W) : ∃ pa n cap, v = .slice pa n cap := by
  rcases h.own.2 with ⟨e, _⟩ | ⟨_, _, _, e, _⟩
  · exact ⟨_, _, _, e⟩
  · exact ⟨_, _, _, e⟩

theorem push26 {w2 W : World} {x0 x1 x2 x3 x4 v : Value} {ts : List TurnD} {k a c : Int} (h : DI w2 x0 x1 x2 x3 x4 v ts W) (hn : ts.length ≤ 4096) (ty : TypeId) :
    ∃ v' W', (Builtin.append_ #[24, 24] ty #[v, .slice (some ⟨W.heap.size, 0, none⟩) 1 1]).run Tryz.prog (W.alloc (.cells #[.int .i64 k, .int .i64 a, .int .i64 c] 60)) = .ok v' W' ∧
      W'.cell? ⟨w2.heap.size, 5, none⟩ = some v ∧ W'.frozen? ⟨w2.heap.size, 5, none⟩ = false ∧ DI w2 x0 x1 x2 x3 x4 v' (ts ++ [⟨k, a, c⟩]) (W'.setCell ⟨w2.heap.size, 5, none⟩ v') := by
  obtain ⟨i0, hi, hz⟩ := Option.map_eq_some_iff.1 infoT
  simp only [Prod.mk.injEq] at hz
  obtain ⟨hz0, hz1, hz2⟩ := hz
  have t8 : Turn Nn W (W.alloc (.cells #[.int .i64 k, .int .i64 a, .int .i64 c] 60)) := (Turn.refl Nn W).alloc _
  have hown1 := ownsRow_turn h.own t8
  have hnew : (W.alloc (.cells #[.int .i64 k, .int .i64 a, .int .i64 c] 60)).heap[W.heap.size]? = some (.cells #[.int .i64 k, .int .i64 a, .int .i64 c] 60) := World.alloc_heap_new _ _
  have hlt := heap_lt h.blk
  obtain ⟨v', W', hrun, hown', hgrow, _, hblk⟩ := run_append_own_at (P := Tryz.prog) (W.alloc (.cells #[.int .i64 k, .int .i64 a, .int .i64 c] 60)) (w2.heap.size + 1) 24 ty 60 i0 _ 3 24 Tryz.underlying24 hi hz0 hz1 hz2 rfl (by decide) v _ _ hown1 ⟨W.heap.size, 0, none⟩ 1 1 [.int .i64 k, .int .i64 a, .int .i64 c] rfl
    (fun j u hj => by
      have hj3 : j < 3 := by
        have := (List.getElem?_eq_some_iff.1 hj).1
        simpa using this
      have : (⟨W.heap.size, 0, none⟩ : Addr).add j = ⟨W.heap.size, j, none⟩ := by unfold Addr.add; split <;> simp_all
      rw [this, cell_blk hnew]
      simpa using hj)
    (fun u hu => by simp at hu; rcases hu with rfl | rfl | rfl <;> rfl) (by simp only [maxLen]; omega) (by omega) (by rw [World.size_alloc]; omega)
  have hB1 : (W.alloc (.cells #[.int .i64 k, .int .i64 a, .int .i64 c] 60)).heap[w2.heap.size]? = some (.cells #[x0, x1, x2, x3, x4, v] 26) := (t8.block _ hlt (fun h => h)).trans h.blk
  have hB2 : W'.heap[w2.heap.size]? = some (.cells #[x0, x1, x2, x3, x4, v] 26) := (hgrow.block _ (heap_lt hB1) (fun e => h.apart e.symm)).trans hB1
  have hvr : v'.ownBlock ≠ some w2.heap.size := by
    rcases hblk with e | e
    · rw [e]; exact h.apart
    · rw [e]; intro e2; simp only [Option.some.injEq] at e2; have := heap_lt hB1; omega
  refine ⟨v', W', hrun, cell_blk hB2, frozen_blk hB2, heap_setCell_at hB2 5 v', ?_, ?_⟩
  · refine own_blk (w := W') ?_ (fun j hj => Below.heap_setCell _ _ _ _ (fun e => hvr (by rw [hj]; exact congrArg some e)))
    have e1 : (ts ++ [(⟨k, a, c⟩ : TurnD)]).length = ts.length + 1 := by simp
    have e2 : turnCells (ts ++ [(⟨k, a, c⟩ : TurnD)]) = turnCells ts ++ [.int .i64 k, .int .i64 a, .int .i64 c] := by unfold turnCells; simp
    rw [e1, e2]; exact hown'
  · refine Turn.setCell (p := ⟨w2.heap.size, 5, none⟩) ?_ (.inr (Nat.le_refl _)) _
    have t1 := h.t.trans t8
    refine ⟨hgrow.os.trans t1.os, hgrow.tape.trans t1.tape, hgrow.output.trans t1.output, Nat.le_trans t1.size hgrow.size, fun j hj hs => ?_⟩
    exact (hgrow.block j (Nat.lt_of_lt_of_le hj t1.size) (fun e => by have := (h.own.lt j e.symm).1; omega)).trans (t1.block j hj hs)

theorem store6 {W : World} {B : Nat} {z0 z1 z2 z3 z4 z5 : Value} {ty : TypeId} (h : W.heap[B]? = some (.cells #[z0, z1, z2, z3, z4, z5] ty)) (x0 x1 x2 x3 x4 x5 : Value) :
    ((((((W.setCell ⟨B, 0, none⟩ x0).setCell ⟨B, 1, none⟩ x1).setCell ⟨B, 2, none⟩ x2).setCell ⟨B, 3, none⟩ x3).setCell ⟨B, 4, none⟩ x4).setCell ⟨B, 5, none⟩ x5).heap[B]? = some (.cells #[x0, x1, x2, x3, x4, x5] ty) :=
  heap_setCell_at (heap_setCell_at (heap_setCell_at (heap_setCell_at (heap_setCell_at (heap_setCell_at h 0 x0) 1 x1) 2 x2) 3 x3) 4 x4) 5 x5

theorem DI.start {w2 w3 : World} (hw3 : Turn Nn w2 w3) {z0 z1 z2 z3 z4 z5 : Value} (h : w3.heap[w2.heap.size]? = some (.cells #[z0, z1, z2, z3, z4, z5] 26)) (x0 x1 x2 x3 x4 : Value) :
    DI w2 x0 x1 x2 x3 x4 (.slice none 0 0) [] ((((((w3.setCell ⟨w2.heap.size, 0, none⟩ x0).setCell ⟨w2.heap.size, 1, none⟩ x1).setCell ⟨w2.heap.size, 2, none⟩ x2).setCell ⟨w2.heap.size, 3, none⟩ x3).setCell ⟨w2.heap.size, 4, none⟩ x4).setCell ⟨w2.heap.size, 5, none⟩ (.slice none 0 0)) := by
  refine ⟨store6 h _ _ _ _ _ _, ⟨?_, .inl ⟨rfl, rfl⟩⟩, ?_⟩
  · rfl
  · exact (((((hw3.setCell (.inr (Nat.le_refl _)) _).setCell (.inr (Nat.le_refl _)) _).setCell (.inr (Nat.le_refl _)) _).setCell (.inr (Nat.le_refl _)) _).setCell (.inr (Nat.le_refl _)) _).setCell (.inr (Nat.le_refl _)) _
end Go.Proofs.YtjnllclpdllceaaGreatDoor
