/- told: a fault told by its code and place. -/
import Derived.Test.YtjnllclpdllceaaGreatDoorVf
import Derived.Deep.DeepCutAuto
namespace Go.Proofs.YtjnllclpdllceaaGreatDoor
set_option linter.unusedSimpArgs false
set_option linter.unusedVariables false
open Go.RowKit Go.Shelf

/-- errors.As's variable. -/
def ET (w : World) : Prop := w.cell? ⟨1, 0, none⟩ = some (.iface 143 (.agg #[.pointer (some ⟨9, 46, none⟩)]))
theorem ET.turn {w w' : World} (h : ET w) (t : Turn Nn w w') : ET w' := cell_turn t h

theorem as_hitT {e : Addr} {b : Nat} {w1 : World} (h1 : w1.heap[b]? = some (.cells #[.pointer none] 93)) (hg : ET w1) :
    Calls Tryz.prog 42 #[.iface 93 (.pointer (some e)), .iface 97 (.pointer (some ⟨b, 0, none⟩))] w1 fun ev w' => ev = .returned (.bool true) ∧ Turn (At1 b) w1 w' ∧ w'.heap[b]? = some (.cells #[.pointer (some e)] 93) := by
  have hc : w1.cell? ⟨b, 0, none⟩ = some (.pointer none) := by rw [cell_blk h1]; rfl
  refine (as_hit e ⟨b, 0, none⟩ (.pointer none) w1 hg hc (frozen_blk h1)).mono ?_
  rintro ev w' ⟨rfl, rfl⟩
  refine ⟨rfl, Turn.setCell (S := At1 b) (((((Turn.refl (At1 b) w1).alloc _).alloc _).alloc _).alloc _) (.inl (show At1 b b from rfl)) _, ?_⟩
  obtain ⟨W, hW⟩ : ∃ W, ((((w1.alloc (.cells #[.pointer (some ⟨b, 0, none⟩)] 97)).alloc (.cells #[.pointer (some ⟨9, 97, none⟩), .pointer (some ⟨w1.heap.size, 0, none⟩), .int .u64 150] 118)).alloc (.cells #[.pointer (some ⟨9, 97, none⟩), .pointer (some ⟨w1.heap.size, 0, none⟩), .int .u64 150] 118)).alloc (.cells #[.pointer (some e)] 93)) = W := ⟨_, rfl⟩
  rw [hW]
  have hk := ((alloc4 hW).2.2.2.2.block b (heap_lt h1) (fun h => h)).trans h1
  rw [heap_setCell_at hk]
  rfl

theorem cells5 {W : World} {B f g : Nat} {c n c' n' p : Value} {t1 t2 t3 : TypeId} (h1 : W.heap[B]? = some (.cells #[c, n] t1)) (h2 : W.heap[f]? = some (.cells #[c', n'] t2)) (h3 : W.heap[g]? = some (.cells #[p] t3)) :
    W.cell? ⟨B, 0, none⟩ = some c ∧ W.cell? ⟨B, 1, none⟩ = some n ∧ W.cell? ⟨f, 0, none⟩ = some c' ∧ W.cell? ⟨f, 1, none⟩ = some n' ∧ W.cell? ⟨g, 0, none⟩ = some p :=
  ⟨by rw [cell_blk h1]; rfl, by rw [cell_blk h1]; rfl, by rw [cell_blk h2]; rfl, by rw [cell_blk h2]; rfl, by rw [cell_blk h3]; rfl⟩

theorem told_nil (c n : Int) (w : World) :
    Calls Tryz.prog 17 #[.nilIface, .agg #[.int .i64 c, .int .i64 n]] w fun e w' => e = .returned (.bool (decide (c = 0))) ∧ Turn Nn w w' := by
  by_cases hc : c = 0
  · subst hc
    go_enter Tryz.func17, Tryz.ntmps17
    go_wp2_with fail
    all_goals (go_ret; exact ⟨rfl, (Turn.refl Nn w).alloc _⟩)
  · have hd : decide (c = 0) = false := decide_eq_false hc
    go_enter Tryz.func17, Tryz.ntmps17
    go_wp2_with fail
    all_goals (go_ret; exact ⟨by simp [hc], (Turn.refl Nn w).alloc _⟩)

set_option maxHeartbeats 4000000 in
theorem told_fault {f : Nat} (c n : Int) {w : World} (hc : c ≠ 0) (hg : ET w) (hf : w.heap[f]? = some (.cells #[.int .i64 c, .int .i64 n] 54)) :
    Calls Tryz.prog 17 #[.iface 93 (.pointer (some ⟨f, 0, none⟩)), .agg #[.int .i64 c, .int .i64 n]] w fun e w' => e = .returned (.bool true) ∧ Turn Nn w w' := by
  obtain ⟨w1, h1⟩ : ∃ w1, (w.alloc (.cells #[.int .i64 c, .int .i64 n] 54)).alloc (.cells #[.pointer none] 93) = w1 := ⟨_, rfl⟩
  obtain ⟨b0, b1, t1⟩ := alloc2 h1
  have f1 := (t1.block _ (heap_lt hf) (fun h => h)).trans hf
  have HA := Lib.hid (@as_hitT ⟨f, 0, none⟩ (w.heap.size + 1) w1.drew b1 (hg.turn t1.drew))
  have hd : decide (c = 0) = false := decide_eq_false hc
  have hl := heap_lt hf
  have HF := Lib.hid f1
  have H0 := Lib.hid b0
  have HT := Lib.hid t1
  clear hf f1 b0 b1 t1 hg
  have key : ∀ W : World, Turn (At1 (w.heap.size + 1)) w1 W → W.heap[w.heap.size]? = some (.cells #[.int .i64 c, .int .i64 n] 54) ∧ W.heap[f]? = some (.cells #[.int .i64 c, .int .i64 n] 54) ∧ Turn Nn w W := by
    intro W t
    refine ⟨(t.block _ (heap_lt H0.out) (fun e => by have e : w.heap.size = w.heap.size + 1 := e; omega)).trans H0.out, (t.block _ (heap_lt HF.out) (fun e => by have e : f = w.heap.size + 1 := e; omega)).trans HF.out, ?_⟩
    exact ⟨t.os.trans HT.out.os, t.tape.trans HT.out.tape, t.output.trans HT.out.output, Nat.le_trans HT.out.size t.size, fun k hk _ => (t.block k (Nat.lt_of_lt_of_le hk HT.out.size) (fun e => by have e : k = w.heap.size + 1 := e; omega)).trans (HT.out.block k hk (fun h => h))⟩
  have KEY := Lib.hid key
  clear key
  go_enter Tryz.func17, Tryz.ntmps17
  go_wp2_with fail
  go_region_with (go_at_call 42; refine HA.out.mono ?_; rintro e W ⟨rfl, tW, bW⟩; obtain ⟨k0, kf, kt⟩ := KEY.out W (show Turn (At1 (w.heap.size + 1)) w1 W from ⟨tW.os, tW.tape, tW.output, tW.size, tW.block⟩); have KT := Lib.hid kt; obtain ⟨q0, q1, q2, q3, q4⟩ := cells5 k0 kf bW; clear kt tW k0 kf bW)
  all_goals (go_wp2_with fail; go_ret; exact ⟨by first | rfl | (go_simp; done) | (simp [go_sem]; done) | (congr 1; simp), KT.out⟩)
end Go.Proofs.YtjnllclpdllceaaGreatDoor
