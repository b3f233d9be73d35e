/- Close's body. -/
import Derived.Test.YtjnekmdocbmofaaCh
namespace Go.Proofs.Ytjnekmdocbmofaa
set_option linter.unusedSimpArgs false
set_option linter.unusedVariables false
open Go.RowKit Go.Shelf

set_option maxRecDepth 100000 in
set_option maxHeartbeats 1000000 in
theorem close1_half0 {w : World} {p q0 q1 xb yb : Nat}
    (hp : w.heap[p]? = some (.cells #[.bool true, .bool true, .pointer (some ⟨q0, 0, none⟩), .pointer (some ⟨q1, 0, none⟩)] 82)) :
    Calls Try.prog 47 #[sideV p false, .pointer (some ⟨xb, 0, none⟩), .pointer (some ⟨yb, 0, none⟩)] w fun r w' => r = .returned (.int .i64 0) ∧ w'.heap[p]? = some (.cells #[.bool false, .bool true, .pointer (some ⟨q0, 0, none⟩), .pointer (some ⟨q1, 0, none⟩)] 82) ∧ Turn (QIn p) w w' := by
  have hlt := heap_lt hp
  have HP := Lib.hid hp
  clear hp
  have hq : ∀ w, Sem.run Try.prog (Op.equalIn 10000 79 (Value.agg #[Value.bool false, Value.bool true]) (Value.agg #[Value.bool false, Value.bool false])) w = .ok false w := fun w => by kernel_rfl
  simp only [sideV, if_true, if_false, Bool.false_eq_true]
  go_enter Try.func47, Try.ntmps47
  go_wp2_with fail
  obtain ⟨w2, hw2⟩ : ∃ w2, w.alloc (.cells #[.pointer (some ⟨p, 0, none⟩), .int .i64 0] 85) = w2 := ⟨_, rfl⟩
  rw [hw2]
  have t2 : Turn Nn w w2 := by rw [← hw2]; exact (Turn.refl _ _).alloc _
  have g0 : w2.cell? ⟨w.heap.size, 0, none⟩ = some (.pointer (some ⟨p, 0, none⟩)) := by rw [← hw2]; exact alloc_cell0 w _ _ _ 0
  have g1 : w2.cell? ⟨w.heap.size, 1, none⟩ = some (.int .i64 0) := by rw [← hw2]; exact alloc_cell1 w _ _ _ 0
  have HP2 := Lib.hid ((t2.block p hlt (fun h => h)).trans HP.out)
  have g2 : w2.cell? ⟨p, 0, none⟩ = some (.bool true) := by rw [cell_blk HP2.out]; rfl
  have g5 : w2.cell? ⟨p, 1, none⟩ = some (.bool true) := by rw [cell_blk HP2.out]; rfl
  have g3 : w2.frozen? ⟨p, 0, none⟩ = false := frozen_blk HP2.out _
  clear hw2
  go_still_tail 7, (by kernel_rfl)
  go_wp2_with fail
  go_ret
  exact ⟨rfl, by show (w2.setCell _ _).heap[p]? = _; rw [heap_setCell_at HP2.out]; rfl, (((t2.mono (T := QIn p) (fun _ h => h.elim)).setCell (p := ⟨p, 0, none⟩) (.inl rfl) _)).drew⟩

set_option maxRecDepth 100000 in
set_option maxHeartbeats 1000000 in
theorem close1_last0 {w : World} {p q0 q1 xb yb : Nat}
    (hp : w.heap[p]? = some (.cells #[.bool true, .bool false, .pointer (some ⟨q0, 0, none⟩), .pointer (some ⟨q1, 0, none⟩)] 82))
    {tb sb n i : Nat} {e : Int} (hx : Cell1 xb 0 (.pointer (some ⟨tb, 0, none⟩)) w) (hy : Cell1 yb 0 (.int .i64 e) w) (ht : Cell1 tb 0 (.slice (some ⟨sb, 0, none⟩) n n) w) (hs : ∃ v, Cell1 sb i v w) (hz : w.frozen? ⟨sb, i, none⟩ = false) (hi : i < n) (hn : n ≤ 64) (he0 : 0 ≤ e) (hei : e / 2 = i) (hxp : xb ≠ p) (hyp : yb ≠ p) (htp : tb ≠ p) (hsp : sb ≠ p) :
    Calls Try.prog 47 #[sideV p false, .pointer (some ⟨xb, 0, none⟩), .pointer (some ⟨yb, 0, none⟩)] w fun r w' => r = .returned (.int .i64 0) ∧ ∃ w3, w3.heap[p]? = some (.cells #[.bool false, .bool false, .pointer (some ⟨q0, 0, none⟩), .pointer (some ⟨q1, 0, none⟩)] 82) ∧ Turn (QIn p) w w3 ∧ w' = (w3.setCell ⟨sb, i, none⟩ (.pointer none)).drew := by
  have hlt := heap_lt hp
  have HP := Lib.hid hp
  clear hp
  have hq : ∀ w, Sem.run Try.prog (Op.equalIn 10000 79 (Value.agg #[Value.bool false, Value.bool false]) (Value.agg #[Value.bool false, Value.bool false])) w = .ok true w := fun w => by kernel_rfl
  have HX := Lib.hid hx
  have HY := Lib.hid hy
  have HT := Lib.hid ht
  have HS := Lib.hid hs
  have HZ := Lib.hid hz
  have hdv : IntKind.i64.wrap (e.tdiv 2) = i := by rw [Int.tdiv_eq_ediv_of_nonneg he0, IntKind.wrap_i64]; omega
  have hi2 : (i : Int) < (n : Int) := by omega
  have hi3 : (0 : Int) ≤ (i : Int) := by omega
  have HEI := Lib.hid hei
  have HN := Lib.hid (show xb ≠ p ∧ yb ≠ p ∧ tb ≠ p ∧ sb ≠ p from ⟨hxp, hyp, htp, hsp⟩)
  clear hx hy ht hs hz hei hxp hyp htp hsp
  simp only [sideV, if_true, if_false, Bool.false_eq_true]
  go_enter Try.func47, Try.ntmps47
  go_wp2_with fail
  obtain ⟨w2, hw2⟩ : ∃ w2, w.alloc (.cells #[.pointer (some ⟨p, 0, none⟩), .int .i64 0] 85) = w2 := ⟨_, rfl⟩
  rw [hw2]
  have t2 : Turn Nn w w2 := by rw [← hw2]; exact (Turn.refl _ _).alloc _
  have g0 : w2.cell? ⟨w.heap.size, 0, none⟩ = some (.pointer (some ⟨p, 0, none⟩)) := by rw [← hw2]; exact alloc_cell0 w _ _ _ 0
  have g1 : w2.cell? ⟨w.heap.size, 1, none⟩ = some (.int .i64 0) := by rw [← hw2]; exact alloc_cell1 w _ _ _ 0
  have HP2 := Lib.hid ((t2.block p hlt (fun h => h)).trans HP.out)
  have g2 : w2.cell? ⟨p, 0, none⟩ = some (.bool true) := by rw [cell_blk HP2.out]; rfl
  have g5 : w2.cell? ⟨p, 1, none⟩ = some (.bool false) := by rw [cell_blk HP2.out]; rfl
  have g3 : w2.frozen? ⟨p, 0, none⟩ = false := frozen_blk HP2.out _
  clear hw2
  go_still_tail 7, (by kernel_rfl)
  go_wp2_with fail
  obtain ⟨w3, hw3⟩ : ∃ w3, (w2.setCell ⟨p, 0, none⟩ (.bool false)).drew = w3 := ⟨_, rfl⟩
  rw [hw3]
  have t3 : Turn (QIn p) w w3 := by rw [← hw3]; exact (((t2.mono (T := QIn p) (fun _ h => h.elim)).setCell (p := ⟨p, 0, none⟩) (.inl rfl) _)).drew
  have HP3 : Hid (w3.heap[p]? = some (.cells #[.bool false, .bool false, .pointer (some ⟨q0, 0, none⟩), .pointer (some ⟨q1, 0, none⟩)] 82)) := Lib.hid (by rw [← hw3]; show (w2.setCell _ _).heap[p]? = _; rw [heap_setCell_at HP2.out]; rfl)
  have k0 := HX.out _ _ t3 HN.out.1
  have k1 := HY.out _ _ t3 HN.out.2.1
  have k2 := HT.out _ _ t3 HN.out.2.2.1
  obtain ⟨sv, hsv⟩ := HS.out
  have k3 := hsv _ _ t3 HN.out.2.2.2
  have k4 : w3.frozen? ⟨sb, i, none⟩ = false := by
    rw [← HZ.out]; unfold World.frozen?; rw [t3.block sb (World.block_lt_of_cell? w ⟨sb, i, none⟩ (hsv Nn w (Turn.refl _ _) (fun h => h))) HN.out.2.2.2]
  have T3 := Lib.hid t3
  clear hw3 g0 g1 g2 g3 g5 t2 hsv t3
  go_still_tail 7, (by kernel_rfl)
  go_wp2_with fail
  try rw [HEI.out]
  go_wp2_with fail
  go_ret
  exact ⟨rfl, _, HP3.out, T3.out, rfl⟩

set_option maxRecDepth 100000 in
set_option maxHeartbeats 1000000 in
theorem close1_half1 {w : World} {p q0 q1 xb yb : Nat}
    (hp : w.heap[p]? = some (.cells #[.bool true, .bool true, .pointer (some ⟨q0, 0, none⟩), .pointer (some ⟨q1, 0, none⟩)] 82)) :
    Calls Try.prog 47 #[sideV p true, .pointer (some ⟨xb, 0, none⟩), .pointer (some ⟨yb, 0, none⟩)] w fun r w' => r = .returned (.int .i64 0) ∧ w'.heap[p]? = some (.cells #[.bool true, .bool false, .pointer (some ⟨q0, 0, none⟩), .pointer (some ⟨q1, 0, none⟩)] 82) ∧ Turn (QIn p) w w' := by
  have hlt := heap_lt hp
  have HP := Lib.hid hp
  clear hp
  have hq : ∀ w, Sem.run Try.prog (Op.equalIn 10000 79 (Value.agg #[Value.bool true, Value.bool false]) (Value.agg #[Value.bool false, Value.bool false])) w = .ok false w := fun w => by kernel_rfl
  simp only [sideV, if_true, if_false, Bool.false_eq_true]
  go_enter Try.func47, Try.ntmps47
  go_wp2_with fail
  obtain ⟨w2, hw2⟩ : ∃ w2, w.alloc (.cells #[.pointer (some ⟨p, 0, none⟩), .int .i64 1] 85) = w2 := ⟨_, rfl⟩
  rw [hw2]
  have t2 : Turn Nn w w2 := by rw [← hw2]; exact (Turn.refl _ _).alloc _
  have g0 : w2.cell? ⟨w.heap.size, 0, none⟩ = some (.pointer (some ⟨p, 0, none⟩)) := by rw [← hw2]; exact alloc_cell0 w _ _ _ 0
  have g1 : w2.cell? ⟨w.heap.size, 1, none⟩ = some (.int .i64 1) := by rw [← hw2]; exact alloc_cell1 w _ _ _ 0
  have HP2 := Lib.hid ((t2.block p hlt (fun h => h)).trans HP.out)
  have g2 : w2.cell? ⟨p, 0, none⟩ = some (.bool true) := by rw [cell_blk HP2.out]; rfl
  have g5 : w2.cell? ⟨p, 1, none⟩ = some (.bool true) := by rw [cell_blk HP2.out]; rfl
  have g3 : w2.frozen? ⟨p, 1, none⟩ = false := frozen_blk HP2.out _
  clear hw2
  go_still_tail 7, (by kernel_rfl)
  go_wp2_with fail
  go_ret
  exact ⟨rfl, by show (w2.setCell _ _).heap[p]? = _; rw [heap_setCell_at HP2.out]; rfl, (((t2.mono (T := QIn p) (fun _ h => h.elim)).setCell (p := ⟨p, 1, none⟩) (.inl rfl) _)).drew⟩

set_option maxRecDepth 100000 in
set_option maxHeartbeats 1000000 in
theorem close1_last1 {w : World} {p q0 q1 xb yb : Nat}
    (hp : w.heap[p]? = some (.cells #[.bool false, .bool true, .pointer (some ⟨q0, 0, none⟩), .pointer (some ⟨q1, 0, none⟩)] 82))
    {tb sb n i : Nat} {e : Int} (hx : Cell1 xb 0 (.pointer (some ⟨tb, 0, none⟩)) w) (hy : Cell1 yb 0 (.int .i64 e) w) (ht : Cell1 tb 0 (.slice (some ⟨sb, 0, none⟩) n n) w) (hs : ∃ v, Cell1 sb i v w) (hz : w.frozen? ⟨sb, i, none⟩ = false) (hi : i < n) (hn : n ≤ 64) (he0 : 0 ≤ e) (hei : e / 2 = i) (hxp : xb ≠ p) (hyp : yb ≠ p) (htp : tb ≠ p) (hsp : sb ≠ p) :
    Calls Try.prog 47 #[sideV p true, .pointer (some ⟨xb, 0, none⟩), .pointer (some ⟨yb, 0, none⟩)] w fun r w' => r = .returned (.int .i64 0) ∧ ∃ w3, w3.heap[p]? = some (.cells #[.bool false, .bool false, .pointer (some ⟨q0, 0, none⟩), .pointer (some ⟨q1, 0, none⟩)] 82) ∧ Turn (QIn p) w w3 ∧ w' = (w3.setCell ⟨sb, i, none⟩ (.pointer none)).drew := by
  have hlt := heap_lt hp
  have HP := Lib.hid hp
  clear hp
  have hq : ∀ w, Sem.run Try.prog (Op.equalIn 10000 79 (Value.agg #[Value.bool false, Value.bool false]) (Value.agg #[Value.bool false, Value.bool false])) w = .ok true w := fun w => by kernel_rfl
  have HX := Lib.hid hx
  have HY := Lib.hid hy
  have HT := Lib.hid ht
  have HS := Lib.hid hs
  have HZ := Lib.hid hz
  have hdv : IntKind.i64.wrap (e.tdiv 2) = i := by rw [Int.tdiv_eq_ediv_of_nonneg he0, IntKind.wrap_i64]; omega
  have hi2 : (i : Int) < (n : Int) := by omega
  have hi3 : (0 : Int) ≤ (i : Int) := by omega
  have HEI := Lib.hid hei
  have HN := Lib.hid (show xb ≠ p ∧ yb ≠ p ∧ tb ≠ p ∧ sb ≠ p from ⟨hxp, hyp, htp, hsp⟩)
  clear hx hy ht hs hz hei hxp hyp htp hsp
  simp only [sideV, if_true, if_false, Bool.false_eq_true]
  go_enter Try.func47, Try.ntmps47
  go_wp2_with fail
  obtain ⟨w2, hw2⟩ : ∃ w2, w.alloc (.cells #[.pointer (some ⟨p, 0, none⟩), .int .i64 1] 85) = w2 := ⟨_, rfl⟩
  rw [hw2]
  have t2 : Turn Nn w w2 := by rw [← hw2]; exact (Turn.refl _ _).alloc _
  have g0 : w2.cell? ⟨w.heap.size, 0, none⟩ = some (.pointer (some ⟨p, 0, none⟩)) := by rw [← hw2]; exact alloc_cell0 w _ _ _ 0
  have g1 : w2.cell? ⟨w.heap.size, 1, none⟩ = some (.int .i64 1) := by rw [← hw2]; exact alloc_cell1 w _ _ _ 0
  have HP2 := Lib.hid ((t2.block p hlt (fun h => h)).trans HP.out)
  have g2 : w2.cell? ⟨p, 0, none⟩ = some (.bool false) := by rw [cell_blk HP2.out]; rfl
  have g5 : w2.cell? ⟨p, 1, none⟩ = some (.bool true) := by rw [cell_blk HP2.out]; rfl
  have g3 : w2.frozen? ⟨p, 1, none⟩ = false := frozen_blk HP2.out _
  clear hw2
  go_still_tail 7, (by kernel_rfl)
  go_wp2_with fail
  obtain ⟨w3, hw3⟩ : ∃ w3, (w2.setCell ⟨p, 1, none⟩ (.bool false)).drew = w3 := ⟨_, rfl⟩
  rw [hw3]
  have t3 : Turn (QIn p) w w3 := by rw [← hw3]; exact (((t2.mono (T := QIn p) (fun _ h => h.elim)).setCell (p := ⟨p, 1, none⟩) (.inl rfl) _)).drew
  have HP3 : Hid (w3.heap[p]? = some (.cells #[.bool false, .bool false, .pointer (some ⟨q0, 0, none⟩), .pointer (some ⟨q1, 0, none⟩)] 82)) := Lib.hid (by rw [← hw3]; show (w2.setCell _ _).heap[p]? = _; rw [heap_setCell_at HP2.out]; rfl)
  have k0 := HX.out _ _ t3 HN.out.1
  have k1 := HY.out _ _ t3 HN.out.2.1
  have k2 := HT.out _ _ t3 HN.out.2.2.1
  obtain ⟨sv, hsv⟩ := HS.out
  have k3 := hsv _ _ t3 HN.out.2.2.2
  have k4 : w3.frozen? ⟨sb, i, none⟩ = false := by
    rw [← HZ.out]; unfold World.frozen?; rw [t3.block sb (World.block_lt_of_cell? w ⟨sb, i, none⟩ (hsv Nn w (Turn.refl _ _) (fun h => h))) HN.out.2.2.2]
  have T3 := Lib.hid t3
  clear hw3 g0 g1 g2 g3 g5 t2 hsv t3
  go_still_tail 7, (by kernel_rfl)
  go_wp2_with fail
  try rw [HEI.out]
  go_wp2_with fail
  go_ret
  exact ⟨rfl, _, HP3.out, T3.out, rfl⟩

end Go.Proofs.Ytjnekmdocbmofaa
