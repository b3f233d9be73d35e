/- The document's walks: Text whole. The program's walks: NamesEvents' body, by the contracts of what it calls. Printed by gen_yj.py. An event that came in, with the bulk of what it reads as. The program's walks: NamesEvents whole. -/
import Derived.Test.YtpbjblbeepbklaaGreatDoorLb
import Derived.Test.YtpbjblbeepbklaaGreatDoorKw
import Derived.Test.YtpbjblbeepbklaaGreatDoorKu
import Derived.Test.YtpbjblbeepbklaaGreatDoorKf
namespace Go.Proofs.YtpbjblbeepbklaaGreatDoor
section
set_option linter.unusedSimpArgs false
set_option linter.unusedVariables false
open Go.RowKit Go.Shelf Go.Lib

set_option maxRecDepth 100000 in
set_option maxHeartbeats 16000000 in
/-- By what the text's triple is. -/
theorem rText_walk {w : World} {E T : EventD} {X : ByteArray} {b : Bool} {Y : ByteArray} {c : Int} (h : Gives w 48 #[.agg (evC E)] (.tuple #[.string X, .agg (evC T), .bool b])) (hyes : b = true → T = E → Y = X ∧ c = 0) (hno : b = false ∨ T ≠ E → Y = ⟨#[]⟩ ∧ c = 2) :
    Calls Tryz.prog 22 #[.agg (evC E)] w fun e w' => e = .returned (.tuple #[.string Y, .int .i64 c]) ∧ Turn Nn w w' := by
  obtain ⟨w1, e1⟩ : ∃ x, w.alloc (.cells (evC E) 34) = x := ⟨_, rfl⟩
  obtain ⟨b1, t1⟩ := alloc1 e1
  obtain ⟨n, hn⟩ : ∃ n, w.heap.size = n := ⟨_, rfl⟩
  rw [hn] at b1
  have B1 : Hid (EvAt w1 n E) := Lib.hid b1
  have T1 := Lib.hid t1
  obtain ⟨y0, y1, y2, y3, y4, y5, y6, y7, y8⟩ := evCells B1.out
  have hne := ev_neq T E
  obtain ⟨d, hd⟩ : ∃ d, decide (T = E) = d := ⟨_, rfl⟩
  simp only [hd] at hne
  have HD := Lib.hid hd
  have HNE := Lib.hid hne
  unfold evC at e1
  clear b1 t1 hd hne
  conv => arg 3; unfold evC
  go_enter Tryz.func22, Tryz.ntmps22
  go_wp2_with fail
  refine (h _ T1.out).mono ?_
  rintro e w2 ⟨rfl, t⟩
  have T2 := Lib.hid (T1.out.trans t)
  have B2 := Lib.hid (B1.out.turn t)
  clear t y0 y1 y2 y3 y4 y5 y6 y7 y8
  obtain ⟨q, bb, cc, hq, eb, Bb, ec, Bc, tb, tc⟩ := evbox w2 T
  have fc : (((((((((bb.setCell ⟨q, 0, none⟩ (.int .i64 (T.kind))).setCell ⟨q, 1, none⟩ (.int .i64 (T.slot))).setCell ⟨q, 2, none⟩ (.string (BT T.actor))).setCell ⟨q, 3, none⟩ (.int .i64 (T.pc))).setCell ⟨q, 4, none⟩ (.string (BT T.chan))).setCell ⟨q, 5, none⟩ (.int .i64 (T.side))).setCell ⟨q, 6, none⟩ (.int .i64 (T.tag))).setCell ⟨q, 7, none⟩ (.int .i64 (T.word))).setCell ⟨q, 8, none⟩ (.string (BT T.name))) = cc := ec
  obtain ⟨y0, y1, y2, y3, y4, y5, y6, y7, y8⟩ : bb.cell? ⟨q, 0, none⟩ = some (.int .i64 0) ∧ bb.cell? ⟨q, 1, none⟩ = some (.int .i64 0) ∧ bb.cell? ⟨q, 2, none⟩ = some (.string ⟨#[]⟩) ∧ bb.cell? ⟨q, 3, none⟩ = some (.int .i64 0) ∧ bb.cell? ⟨q, 4, none⟩ = some (.string ⟨#[]⟩) ∧ bb.cell? ⟨q, 5, none⟩ = some (.int .i64 0) ∧ bb.cell? ⟨q, 6, none⟩ = some (.int .i64 0) ∧ bb.cell? ⟨q, 7, none⟩ = some (.int .i64 0) ∧ bb.cell? ⟨q, 8, none⟩ = some (.string ⟨#[]⟩) := evCells Bb
  obtain ⟨z0, z1, z2, z3, z4, z5, z6, z7, z8⟩ := evFree Bb
  obtain ⟨x0, x1, x2, x3, x4, x5, x6, x7, x8⟩ := evCells Bc
  obtain ⟨v0, v1, v2, v3, v4, v5, v6, v7, v8⟩ := evCells (EvAt.turn B2.out tc)
  have T3 := Lib.hid (T2.out.trans tc)
  have hne := HNE.out
  clear Bb Bc ec tb tc
  unfold evC at hne ⊢
  cases b with
  | false =>
    obtain ⟨rfl, rfl⟩ := hno (.inl rfl)
    clear hno hyes
    go_wp2_with fail
    go_ret2
    exact ⟨rfl, T3.out⟩
  | true =>
    cases d with
    | false =>
      obtain ⟨rfl, rfl⟩ := hno (.inr (of_decide_eq_false HD.out))
      clear hno hyes
      go_wp2_with fail
      go_ret2
      exact ⟨rfl, T3.out⟩
    | true =>
      obtain ⟨rfl, rfl⟩ := hyes rfl (of_decide_eq_true HD.out)
      clear hno hyes
      go_wp2_with fail
      go_ret2
      exact ⟨rfl, T3.out⟩

theorem rText_any {E : EventD} (hs : ESmall E) (w : World) : Calls Tryz.prog 22 #[.agg (evC E)] w fun e w' => e = .returned (.tuple #[.string (BT (textC E).1), .int .i64 (textC E).2]) ∧ Turn Nn w w' := by
  have hr := ref_text (e := E) hs.ints
  unfold ansT at hr
  refine rText_walk (w := w) (E := E) (fun u _ => refText_any hs u) (fun h1 h2 => ?_) (fun h => ?_)
  · rw [if_pos ⟨h1, h2⟩] at hr
    rw [textC_some hr]
    exact ⟨rfl, rfl⟩
  · rw [if_neg (fun hh => by
      rcases h with h | h
      · rw [hh.1] at h; cases h
      · exact h hh.2)] at hr
    rw [textC_none hr]
    exact ⟨rfl, rfl⟩
end
section
set_option linter.unusedSimpArgs false
set_option linter.unusedVariables false
open Go.RowKit Go.Shelf Go.Lib

structure TwoAt (w W : World) (n : Nat) (acts : Array Value) (E : EventD) : Prop where
  ev : EvAt W n E
  act : W.heap[n + 1]? = some (.cells acts 36)
  low : Turn Nn w W
  gn : w.heap.size ≤ n
theorem TwoAt.turn {w W W' : World} {n : Nat} {acts : Array Value} {E : EventD} (D : TwoAt w W n acts E) (t : Turn Nn W W') : TwoAt w W' n acts E := ⟨D.ev.turn t, (t.block _ (heap_lt D.act) (fun h => h)).trans D.act, D.low.trans t, D.gn⟩
theorem TwoAt.all {w W : World} {n : Nat} {acts : Array Value} {E : EventD} (D : TwoAt w W n acts E) (F : EventD) : TwoAt w (set9 W n F) n acts F :=
  ⟨set9_at D.ev F, set9_blk D.act (by omega), D.low.off (set9_turn (B := n) F) D.gn, D.gn⟩

set_option maxRecDepth 100000 in
set_option maxHeartbeats 40000000 in
theorem events_walk {w : World} {va vc vn : Value} {kd sd tg wd od : Int} {E F : EventD} {S1 S2 : ByteArray} {c1 c2 : Int}
    (hW : Gives w 20 #[] (.bool true)) (hEv : Gives w 23 #[.agg #[.int .u8 kd, va, vc, vn, .int .u8 sd, .int .u8 tg, .int .i64 wd, .int .u8 od]] (.agg (evC F)))
    (hT1 : Gives w 21 #[.agg (evC E)] (.tuple #[.string S1, .int .i64 c1])) (hR1 : Gives w 22 #[.agg (evC E)] (.tuple #[.string S1, .int .i64 c1]))
    (hT2 : Gives w 21 #[.agg (evC F)] (.tuple #[.string S2, .int .i64 c2])) (hR2 : Gives w 22 #[.agg (evC F)] (.tuple #[.string S2, .int .i64 c2])) :
    Calls Tryz.prog 4 #[.agg (evC E), .agg #[.int .u8 kd, va, vc, vn, .int .u8 sd, .int .u8 tg, .int .i64 wd, .int .u8 od]] w fun e w' => e = .returned (.bool true) ∧ Turn Nn w w' := by
  obtain ⟨w1, e1⟩ : ∃ x, w.alloc (.cells (evC E) 34) = x := ⟨_, rfl⟩
  obtain ⟨b1, t1⟩ := alloc1 e1
  obtain ⟨w2, e2⟩ : ∃ x, w1.alloc (.cells #[.int .u8 kd, va, vc, vn, .int .u8 sd, .int .u8 tg, .int .i64 wd, .int .u8 od] 36) = x := ⟨_, rfl⟩
  obtain ⟨b2, t2⟩ := alloc1 e2
  obtain ⟨n, hn⟩ : ∃ n, w.heap.size = n := ⟨_, rfl⟩
  have hn1 : w1.heap.size = n + 1 := by rw [← e1, World.size_alloc, hn]
  rw [hn] at b1
  rw [hn1] at b2
  have D0 : Hid (TwoAt w w2 n #[.int .u8 kd, va, vc, vn, .int .u8 sd, .int .u8 tg, .int .i64 wd, .int .u8 od] E) := Lib.hid ⟨EvAt.turn (E := E) b1 t2, b2, t1.trans t2, by omega⟩
  have HW := Lib.hid hW
  have HEV := Lib.hid hEv
  have HT1 := Lib.hid hT1
  have HR1 := Lib.hid hR1
  have HT2 := Lib.hid hT2
  have HR2 := Lib.hid hR2
  unfold evC at e1
  clear b1 b2 t1 t2 hW hEv hT1 hR1 hT2 hR2
  conv => arg 3; unfold evC
  go_enter Tryz.func4, Tryz.ntmps4
  unfold evC at HT1 HR1 HT2 HR2 HEV
  obtain ⟨y0, y1, y2, y3, y4, y5, y6, y7, y8⟩ : w2.cell? ⟨n, 0, none⟩ = some (.int .i64 (E.kind)) ∧ w2.cell? ⟨n, 1, none⟩ = some (.int .i64 (E.slot)) ∧ w2.cell? ⟨n, 2, none⟩ = some (.string (BT E.actor)) ∧ w2.cell? ⟨n, 3, none⟩ = some (.int .i64 (E.pc)) ∧ w2.cell? ⟨n, 4, none⟩ = some (.string (BT E.chan)) ∧ w2.cell? ⟨n, 5, none⟩ = some (.int .i64 (E.side)) ∧ w2.cell? ⟨n, 6, none⟩ = some (.int .i64 (E.tag)) ∧ w2.cell? ⟨n, 7, none⟩ = some (.int .i64 (E.word)) ∧ w2.cell? ⟨n, 8, none⟩ = some (.string (BT E.name)) := evCells D0.out.ev
  go_wp2_with fail
  clear e1 e2 hn hn1
  refine wp_loop_rounds 3 ?_
  rw [rounds_succ]
  go_wp2_with fail
  refine (HT1.out _ D0.out.low).mono ?_
  rintro e p1 ⟨rfl, t⟩
  have DA1 := Lib.hid (D0.out.turn t)
  clear t
  clear y0 y1 y2 y3 y4 y5 y6 y7 y8
  obtain ⟨y0, y1, y2, y3, y4, y5, y6, y7, y8⟩ : p1.cell? ⟨n, 0, none⟩ = some (.int .i64 (E.kind)) ∧ p1.cell? ⟨n, 1, none⟩ = some (.int .i64 (E.slot)) ∧ p1.cell? ⟨n, 2, none⟩ = some (.string (BT E.actor)) ∧ p1.cell? ⟨n, 3, none⟩ = some (.int .i64 (E.pc)) ∧ p1.cell? ⟨n, 4, none⟩ = some (.string (BT E.chan)) ∧ p1.cell? ⟨n, 5, none⟩ = some (.int .i64 (E.side)) ∧ p1.cell? ⟨n, 6, none⟩ = some (.int .i64 (E.tag)) ∧ p1.cell? ⟨n, 7, none⟩ = some (.int .i64 (E.word)) ∧ p1.cell? ⟨n, 8, none⟩ = some (.string (BT E.name)) := evCells DA1.out.ev
  go_wp2_with fail
  refine (HR1.out _ DA1.out.low).mono ?_
  rintro e q1 ⟨rfl, t⟩
  have DB1 := Lib.hid (DA1.out.turn t)
  clear t
  clear y0 y1 y2 y3 y4 y5 y6 y7 y8
  have a0 : q1.cell? ⟨n + 1, 0, none⟩ = some (.int .u8 kd) := cell_blk DB1.out.act
  have a1 : q1.cell? ⟨n + 1, 1, none⟩ = some (va) := cell_blk DB1.out.act
  have a2 : q1.cell? ⟨n + 1, 2, none⟩ = some (vc) := cell_blk DB1.out.act
  have a3 : q1.cell? ⟨n + 1, 3, none⟩ = some (vn) := cell_blk DB1.out.act
  have a4 : q1.cell? ⟨n + 1, 4, none⟩ = some (.int .u8 sd) := cell_blk DB1.out.act
  have a5 : q1.cell? ⟨n + 1, 5, none⟩ = some (.int .u8 tg) := cell_blk DB1.out.act
  have a6 : q1.cell? ⟨n + 1, 6, none⟩ = some (.int .i64 wd) := cell_blk DB1.out.act
  have a7 : q1.cell? ⟨n + 1, 7, none⟩ = some (.int .u8 od) := cell_blk DB1.out.act
  go_wp2_with fail
  refine (HEV.out _ DB1.out.low).mono ?_
  rintro e r1 ⟨rfl, t⟩
  have DC1 := Lib.hid (DB1.out.turn t)
  clear t
  clear a0 a1 a2 a3 a4 a5 a6 a7
  obtain ⟨x0, x1, x2, x3, x4, x5, x6, x7, x8⟩ : r1.cell? ⟨n, 0, none⟩ = some (.int .i64 (E.kind)) ∧ r1.cell? ⟨n, 1, none⟩ = some (.int .i64 (E.slot)) ∧ r1.cell? ⟨n, 2, none⟩ = some (.string (BT E.actor)) ∧ r1.cell? ⟨n, 3, none⟩ = some (.int .i64 (E.pc)) ∧ r1.cell? ⟨n, 4, none⟩ = some (.string (BT E.chan)) ∧ r1.cell? ⟨n, 5, none⟩ = some (.int .i64 (E.side)) ∧ r1.cell? ⟨n, 6, none⟩ = some (.int .i64 (E.tag)) ∧ r1.cell? ⟨n, 7, none⟩ = some (.int .i64 (E.word)) ∧ r1.cell? ⟨n, 8, none⟩ = some (.string (BT E.name)) := evCells DC1.out.ev
  obtain ⟨z0, z1, z2, z3, z4, z5, z6, z7, z8⟩ := evFree DC1.out.ev
  obtain ⟨s1, es1⟩ : ∃ x, set9 r1 n F = x := ⟨_, rfl⟩
  have D1 : Hid (TwoAt w s1 n #[.int .u8 kd, va, vc, vn, .int .u8 sd, .int .u8 tg, .int .i64 wd, .int .u8 od] F) := Lib.hid (by rw [← es1]; exact TwoAt.all DC1.out F)
  have fs1 : (((((((((r1.setCell ⟨n, 0, none⟩ (.int .i64 (F.kind))).setCell ⟨n, 1, none⟩ (.int .i64 (F.slot))).setCell ⟨n, 2, none⟩ (.string (BT F.actor))).setCell ⟨n, 3, none⟩ (.int .i64 (F.pc))).setCell ⟨n, 4, none⟩ (.string (BT F.chan))).setCell ⟨n, 5, none⟩ (.int .i64 (F.side))).setCell ⟨n, 6, none⟩ (.int .i64 (F.tag))).setCell ⟨n, 7, none⟩ (.int .i64 (F.word))).setCell ⟨n, 8, none⟩ (.string (BT F.name))) = s1 := es1
  clear es1
  obtain ⟨y0, y1, y2, y3, y4, y5, y6, y7, y8⟩ : s1.cell? ⟨n, 0, none⟩ = some (.int .i64 (F.kind)) ∧ s1.cell? ⟨n, 1, none⟩ = some (.int .i64 (F.slot)) ∧ s1.cell? ⟨n, 2, none⟩ = some (.string (BT F.actor)) ∧ s1.cell? ⟨n, 3, none⟩ = some (.int .i64 (F.pc)) ∧ s1.cell? ⟨n, 4, none⟩ = some (.string (BT F.chan)) ∧ s1.cell? ⟨n, 5, none⟩ = some (.int .i64 (F.side)) ∧ s1.cell? ⟨n, 6, none⟩ = some (.int .i64 (F.tag)) ∧ s1.cell? ⟨n, 7, none⟩ = some (.int .i64 (F.word)) ∧ s1.cell? ⟨n, 8, none⟩ = some (.string (BT F.name)) := evCells D1.out.ev
  go_wp2_with fail
  rw [rounds_succ]
  clear fs1 z0 z1 z2 z3 z4 z5 z6 z7 z8
  clear x0 x1 x2 x3 x4 x5 x6 x7 x8
  go_wp2_with fail
  refine (HT2.out _ D1.out.low).mono ?_
  rintro e p2 ⟨rfl, t⟩
  have DA2 := Lib.hid (D1.out.turn t)
  clear t
  clear y0 y1 y2 y3 y4 y5 y6 y7 y8
  obtain ⟨y0, y1, y2, y3, y4, y5, y6, y7, y8⟩ : p2.cell? ⟨n, 0, none⟩ = some (.int .i64 (F.kind)) ∧ p2.cell? ⟨n, 1, none⟩ = some (.int .i64 (F.slot)) ∧ p2.cell? ⟨n, 2, none⟩ = some (.string (BT F.actor)) ∧ p2.cell? ⟨n, 3, none⟩ = some (.int .i64 (F.pc)) ∧ p2.cell? ⟨n, 4, none⟩ = some (.string (BT F.chan)) ∧ p2.cell? ⟨n, 5, none⟩ = some (.int .i64 (F.side)) ∧ p2.cell? ⟨n, 6, none⟩ = some (.int .i64 (F.tag)) ∧ p2.cell? ⟨n, 7, none⟩ = some (.int .i64 (F.word)) ∧ p2.cell? ⟨n, 8, none⟩ = some (.string (BT F.name)) := evCells DA2.out.ev
  go_wp2_with fail
  refine (HR2.out _ DA2.out.low).mono ?_
  rintro e q2 ⟨rfl, t⟩
  have DB2 := Lib.hid (DA2.out.turn t)
  clear t
  clear y0 y1 y2 y3 y4 y5 y6 y7 y8
  have a0 : q2.cell? ⟨n + 1, 0, none⟩ = some (.int .u8 kd) := cell_blk DB2.out.act
  have a1 : q2.cell? ⟨n + 1, 1, none⟩ = some (va) := cell_blk DB2.out.act
  have a2 : q2.cell? ⟨n + 1, 2, none⟩ = some (vc) := cell_blk DB2.out.act
  have a3 : q2.cell? ⟨n + 1, 3, none⟩ = some (vn) := cell_blk DB2.out.act
  have a4 : q2.cell? ⟨n + 1, 4, none⟩ = some (.int .u8 sd) := cell_blk DB2.out.act
  have a5 : q2.cell? ⟨n + 1, 5, none⟩ = some (.int .u8 tg) := cell_blk DB2.out.act
  have a6 : q2.cell? ⟨n + 1, 6, none⟩ = some (.int .i64 wd) := cell_blk DB2.out.act
  have a7 : q2.cell? ⟨n + 1, 7, none⟩ = some (.int .u8 od) := cell_blk DB2.out.act
  go_wp2_with fail
  refine (HEV.out _ DB2.out.low).mono ?_
  rintro e r2 ⟨rfl, t⟩
  have DC2 := Lib.hid (DB2.out.turn t)
  clear t
  clear a0 a1 a2 a3 a4 a5 a6 a7
  obtain ⟨x0, x1, x2, x3, x4, x5, x6, x7, x8⟩ : r2.cell? ⟨n, 0, none⟩ = some (.int .i64 (F.kind)) ∧ r2.cell? ⟨n, 1, none⟩ = some (.int .i64 (F.slot)) ∧ r2.cell? ⟨n, 2, none⟩ = some (.string (BT F.actor)) ∧ r2.cell? ⟨n, 3, none⟩ = some (.int .i64 (F.pc)) ∧ r2.cell? ⟨n, 4, none⟩ = some (.string (BT F.chan)) ∧ r2.cell? ⟨n, 5, none⟩ = some (.int .i64 (F.side)) ∧ r2.cell? ⟨n, 6, none⟩ = some (.int .i64 (F.tag)) ∧ r2.cell? ⟨n, 7, none⟩ = some (.int .i64 (F.word)) ∧ r2.cell? ⟨n, 8, none⟩ = some (.string (BT F.name)) := evCells DC2.out.ev
  obtain ⟨z0, z1, z2, z3, z4, z5, z6, z7, z8⟩ := evFree DC2.out.ev
  obtain ⟨s2, es2⟩ : ∃ x, set9 r2 n F = x := ⟨_, rfl⟩
  have D2 : Hid (TwoAt w s2 n #[.int .u8 kd, va, vc, vn, .int .u8 sd, .int .u8 tg, .int .i64 wd, .int .u8 od] F) := Lib.hid (by rw [← es2]; exact TwoAt.all DC2.out F)
  have fs2 : (((((((((r2.setCell ⟨n, 0, none⟩ (.int .i64 (F.kind))).setCell ⟨n, 1, none⟩ (.int .i64 (F.slot))).setCell ⟨n, 2, none⟩ (.string (BT F.actor))).setCell ⟨n, 3, none⟩ (.int .i64 (F.pc))).setCell ⟨n, 4, none⟩ (.string (BT F.chan))).setCell ⟨n, 5, none⟩ (.int .i64 (F.side))).setCell ⟨n, 6, none⟩ (.int .i64 (F.tag))).setCell ⟨n, 7, none⟩ (.int .i64 (F.word))).setCell ⟨n, 8, none⟩ (.string (BT F.name))) = s2 := es2
  clear es2
  go_wp2_with fail
  rw [rounds_succ]
  clear fs2 z0 z1 z2 z3 z4 z5 z6 z7 z8
  clear x0 x1 x2 x3 x4 x5 x6 x7 x8
  go_wp2_with fail
  refine (HW.out _ D2.out.low).mono ?_
  rintro e u ⟨rfl, t⟩
  have TE := Lib.hid (D2.out.low.trans t)
  clear t
  go_wp2_with fail
  go_ret
  exact ⟨rfl, TE.out⟩
end
section
set_option linter.unusedSimpArgs false
set_option linter.unusedVariables false
open Go.ChangeShapes Go.WideShapes Go.ChangeAt Go.RowKit

theorem cellsOf3 : Tryz.prog.cellsOf 3 = 1 := by kernel_rfl
theorem cellsOf9 : Tryz.prog.cellsOf 9 = 1 := by kernel_rfl
theorem cellsOf34 : Tryz.prog.cellsOf 34 = 9 := by kernel_rfl
theorem BT_back (s : ByteArray) : BT s.data.toList = s := by cases s; unfold BT; simp

set_option maxRecDepth 100000 in
set_option maxHeartbeats 2000000 in
theorem ev_came {H : Type} {enc : TypeId × Value → H} {W : World} {base : Nat} {v : Value} {d : DataW H} {ps : List MemPlace}
    (hv : Value.okWide Tryz.prog W .any base 34 v) (h : DataW.Trod enc Tryz.prog W 0 (fun _ => true) true 34 v d ps) :
    ∃ E : EventD, v = .agg (evC E) ∧ IntsD E ∧ Int64 E.kind ∧ Int64 E.side ∧ Int64 E.tag ∧ E.actor.length + E.chan.length + E.name.length ≤ Rows.uptoBulk d := by
  obtain ⟨⟨L⟩, rfl, hsz⟩ := okWide_struct Tryz.underlying34 hv
  obtain ⟨fuel, hf⟩ := h
  rw [cellsOf34] at hsz
  have hL : L.length = 9 := by simpa using hsz
  match L, hL with
  | [c0, c1, c2, c3, c4, c5, c6, c7, c8], _ =>
    replace hf : DataW.trod enc Tryz.prog W 0 (fun _ => true) true fuel 34 [c0, c1, c2, c3, c4, c5, c6, c7, c8] = some (d, ps) := hf
    obtain ⟨xs, n, _, hx, hl, hlen, hfld⟩ := DataW.trod_struct Tryz.underlying34 hf
    match xs, hlen with
    | [y0, y1, y2, y3, y4, y5, y6, y7, y8], _ =>
      have g0 : DataW.trod enc Tryz.prog W 0 (fun _ => true) true n 3 [c0] = some y0 := by simpa [cellsOf3, cellsOf9, cellsOf2] using hfld 0 _ rfl
      have g1 : DataW.trod enc Tryz.prog W 0 (fun _ => true) true n 3 [c1] = some y1 := by simpa [cellsOf3, cellsOf9, cellsOf2] using hfld 1 _ rfl
      have g2 : DataW.trod enc Tryz.prog W 0 (fun _ => true) true n 9 [c2] = some y2 := by simpa [cellsOf3, cellsOf9, cellsOf2] using hfld 2 _ rfl
      have g3 : DataW.trod enc Tryz.prog W 0 (fun _ => true) true n 3 [c3] = some y3 := by simpa [cellsOf3, cellsOf9, cellsOf2] using hfld 3 _ rfl
      have g4 : DataW.trod enc Tryz.prog W 0 (fun _ => true) true n 9 [c4] = some y4 := by simpa [cellsOf3, cellsOf9, cellsOf2] using hfld 4 _ rfl
      have g5 : DataW.trod enc Tryz.prog W 0 (fun _ => true) true n 3 [c5] = some y5 := by simpa [cellsOf3, cellsOf9, cellsOf2] using hfld 5 _ rfl
      have g6 : DataW.trod enc Tryz.prog W 0 (fun _ => true) true n 3 [c6] = some y6 := by simpa [cellsOf3, cellsOf9, cellsOf2] using hfld 6 _ rfl
      have g7 : DataW.trod enc Tryz.prog W 0 (fun _ => true) true n 2 [c7] = some y7 := by simpa [cellsOf3, cellsOf9, cellsOf2] using hfld 7 _ rfl
      have g8 : DataW.trod enc Tryz.prog W 0 (fun _ => true) true n 9 [c8] = some y8 := by simpa [cellsOf3, cellsOf9, cellsOf2] using hfld 8 _ rfl
      obtain ⟨x0, e0, r0, w0⟩ := DataW.trod_int Tryz.underlying3 g0
      obtain ⟨x1, e1, r1, w1⟩ := DataW.trod_int Tryz.underlying3 g1
      obtain ⟨x2, e2, r2, _⟩ := DataW.trod_string Tryz.underlying9 g2
      obtain ⟨x3, e3, r3, w3⟩ := DataW.trod_int Tryz.underlying3 g3
      obtain ⟨x4, e4, r4, _⟩ := DataW.trod_string Tryz.underlying9 g4
      obtain ⟨x5, e5, r5, w5⟩ := DataW.trod_int Tryz.underlying3 g5
      obtain ⟨x6, e6, r6, w6⟩ := DataW.trod_int Tryz.underlying3 g6
      obtain ⟨x7, e7, r7, w7⟩ := DataW.trod_int Tryz.underlying2 g7
      obtain ⟨x8, e8, r8, _⟩ := DataW.trod_string Tryz.underlying9 g8
      simp at e0 e1 e2 e3 e4 e5 e6 e7 e8
      subst e0 e1 e2 e3 e4 e5 e6 e7 e8 r0 r1 r2 r3 r4 r5 r6 r7 r8
      refine ⟨⟨x0, x1, x2.data.toList, x3, x4.data.toList, x5, x6, x7, x8.data.toList⟩, ?_, ⟨bounds_i64 w1, bounds_i64 w3, bounds_i64 w7⟩, bounds_i64 w0, bounds_i64 w5, bounds_i64 w6, ?_⟩
      · unfold evC
        simp only [BT_back]
      · have hd : d = _ := congrArg Prod.fst hx
        rw [hd]
        simp only [List.map_cons, List.map_nil, Rows.uptoBulk, Rows.uptoBulkAll]
        omega
end
section
set_option linter.unusedSimpArgs false
set_option linter.unusedVariables false
open Go.RowKit Go.Shelf Go.Lib

theorem events_any {x : ActD} {va vc vn : Value} {E : EventD} {w : World} (hw : Laid w) (hs : ESmall E) (h : ActOk x) (ha : ByteSl w va x.actor) (hc : ByteSl w vc x.chan) (hn : ByteSl w vn x.name) :
    Calls Tryz.prog 4 #[.agg (evC E), .agg #[.int .u8 (x.kind : Int), va, vc, vn, .int .u8 (x.side : Int), .int .u8 (x.tag : Int), .int .i64 x.word, .int .u8 (x.odd : Int)]] w fun e w' => e = .returned (.bool true) ∧ Turn Nn w w' :=
  events_walk (gives_works hw) (gives_event h ha hc hn) (gives_text hw hs) (fun u _ => rText_any hs u) (gives_text hw (event_small h)) (fun u _ => rText_any (event_small h) u)
end
end Go.Proofs.YtpbjblbeepbklaaGreatDoor
