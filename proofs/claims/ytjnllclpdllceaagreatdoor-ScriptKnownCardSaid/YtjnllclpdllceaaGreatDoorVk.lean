/- drafted: its end. -/
import Derived.Test.YtjnllclpdllceaaGreatDoorVj
namespace Go.Proofs.YtjnllclpdllceaaGreatDoor
set_option linter.unusedSimpArgs false
set_option linter.unusedVariables false
open Go.RowKit Go.Shelf

def DraftPost (w : World) (e : Ending) (w' : World) : Prop :=
  ∃ s v, e = .returned (.agg (scriptA s v)) ∧ TSl w' v s.turns ∧ s.turns.length ≤ 101 ∧ s.mod.length ≤ 3000 ∧ Turn Nn w w'

theorem DI.set0 {w2 W : World} {x0 x1 x2 x3 x4 v : Value} {ts : List TurnD} (h : DI w2 x0 x1 x2 x3 x4 v ts W) (y : Value) : DI w2 y x1 x2 x3 x4 v ts (W.setCell ⟨w2.heap.size, 0, none⟩ y) :=
  ⟨heap_setCell_at h.blk 0 y, own_blk (w := W) h.own (fun j hj => Below.heap_setCell _ _ _ _ (fun e => h.apart (by rw [hj]; exact congrArg some e))), h.t.setCell (.inr (Nat.le_refl _)) _⟩
theorem DI.set1 {w2 W : World} {x0 x1 x2 x3 x4 v : Value} {ts : List TurnD} (h : DI w2 x0 x1 x2 x3 x4 v ts W) (y : Value) : DI w2 x0 y x2 x3 x4 v ts (W.setCell ⟨w2.heap.size, 1, none⟩ y) :=
  ⟨heap_setCell_at h.blk 1 y, own_blk (w := W) h.own (fun j hj => Below.heap_setCell _ _ _ _ (fun e => h.apart (by rw [hj]; exact congrArg some e))), h.t.setCell (.inr (Nat.le_refl _)) _⟩
theorem DI.set2 {w2 W : World} {x0 x1 x2 x3 x4 v : Value} {ts : List TurnD} (h : DI w2 x0 x1 x2 x3 x4 v ts W) (y : Value) : DI w2 x0 x1 y x3 x4 v ts (W.setCell ⟨w2.heap.size, 2, none⟩ y) :=
  ⟨heap_setCell_at h.blk 2 y, own_blk (w := W) h.own (fun j hj => Below.heap_setCell _ _ _ _ (fun e => h.apart (by rw [hj]; exact congrArg some e))), h.t.setCell (.inr (Nat.le_refl _)) _⟩

theorem draft_res {W : World} {B : Nat} {tmps : Array Value} {c0 c1 c2 c3 c4 c5 : Value} (h2 : tmps[2]?.getD undef = .pointer (some ⟨B, 0, none⟩)) (hb : W.heap[B]? = some (.cells #[c0, c1, c2, c3, c4, c5] 26)) :
    (results Tryz.f10 tmps).run Tryz.prog W = .ok (.agg #[c0, c1, c2, c3, c4, c5]) W := by
  obtain ⟨d0, d1, d2, d3, d4, d5⟩ := cells6 hb
  simp only [results, show Tryz.f10.results = #[.cell 2 26] from rfl]
  go_simp

theorem draft_post {w w2 W : World} {c a p : Int} {tw : Bool} {m : Bs} {v : Value} {ts : List TurnD} (hw : Turn Nn w w2) (h : DI w2 (.int .i64 c) (.int .i64 a) (.int .i64 p) (.bool tw) (.string (BT m)) v ts W) (hn : ts.length ≤ 101) (hm : m.length ≤ 3000) {B : Nat} (hB : w.heap.size ≤ B) (hB2 : B < w2.heap.size) (y0 y1 y2 y3 y4 y5 : Value) :
    DraftPost w (.returned (.agg #[.int .i64 c, .int .i64 a, .int .i64 p, .bool tw, .string (BT m), v])) ((((((W.setCell ⟨B, 0, none⟩ y0).setCell ⟨B, 1, none⟩ y1).setCell ⟨B, 2, none⟩ y2).setCell ⟨B, 3, none⟩ y3).setCell ⟨B, 4, none⟩ y4).setCell ⟨B, 5, none⟩ y5) := by
  refine ⟨⟨c, a, p, tw, m, ts⟩, v, rfl, ?_, hn, hm, ?_⟩
  · refine TSl.own (B := w2.heap.size + 1) (own_blk (w := W) h.own (fun j hj => ?_))
    have hj2 := (h.own.lt j hj).1
    have hne : ∀ o, (⟨B, o, none⟩ : Addr).block ≠ j := fun o e => by have e : B = j := e; omega
    rw [Below.heap_setCell _ _ _ _ (fun e => hne 5 e.symm), Below.heap_setCell _ _ _ _ (fun e => hne 4 e.symm), Below.heap_setCell _ _ _ _ (fun e => hne 3 e.symm), Below.heap_setCell _ _ _ _ (fun e => hne 2 e.symm), Below.heap_setCell _ _ _ _ (fun e => hne 1 e.symm), Below.heap_setCell _ _ _ _ (fun e => hne 0 e.symm)]
  · have t := hw.trans h.t
    exact (((((t.setCell (.inr hB) _).setCell (.inr hB) _).setCell (.inr hB) _).setCell (.inr hB) _).setCell (.inr hB) _).setCell (.inr hB) _
end Go.Proofs.YtjnllclpdllceaaGreatDoor
