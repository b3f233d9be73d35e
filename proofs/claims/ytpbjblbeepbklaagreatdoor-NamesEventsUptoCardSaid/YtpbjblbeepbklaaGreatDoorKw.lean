/- The program's walks: NamesBack's body, by the contracts of what it calls. Printed by gen_xu.py. The program's walks: law.name of an endpoint (kind 2). Printed by gen_xy.py. The program's walks: law.event whole; NamesBack whole. -/
import Derived.Test.YtpbjblbeepbklaaGreatDoorKr
import Derived.Test.YtpbjblbeepbklaaGreatDoorKs
import Derived.Test.YtpbjblbeepbklaaGreatDoorKm
import Derived.Test.YtpbjblbeepbklaaGreatDoorKt
import Derived.Test.YtpbjblbeepbklaaGreatDoorKv
namespace Go.Proofs.YtpbjblbeepbklaaGreatDoor
section
set_option linter.unusedSimpArgs false
set_option linter.unusedVariables false
open Go.RowKit Go.Shelf Go.Lib

theorem evbox (W : World) (E : EventD) :
    ∃ q wb wc, W.heap.size = q ∧ W.alloc (.cells #[.int .i64 0, .int .i64 0, .string ⟨#[]⟩, .int .i64 0, .string ⟨#[]⟩, .int .i64 0, .int .i64 0, .int .i64 0, .string ⟨#[]⟩] 34) = wb ∧ EvAt wb q zeroE ∧ set9 wb q E = wc ∧ EvAt wc q E ∧ Turn Nn W wb ∧ Turn Nn W wc := by
  obtain ⟨wb, e0⟩ : ∃ wb, W.alloc (.cells (evC zeroE) 34) = wb := ⟨_, rfl⟩
  obtain ⟨b0, t0⟩ := alloc1 e0
  exact ⟨W.heap.size, wb, _, rfl, e0, b0, rfl, set9_at b0 E, t0, t0.off (set9_turn (B := W.heap.size) E) (Nat.le_refl _)⟩
theorem ev_neq (E F : EventD) (W : World) : (binOp BinOp.neq 34 (.agg (evC E)) (.agg (evC F))).run Tryz.prog W = .ok (.bool (!decide (E = F))) W := by
  unfold evC
  go_simp
  have hd : decide (E = F) = decide (E.kind = F.kind ∧ E.slot = F.slot ∧ E.actor = F.actor ∧ E.pc = F.pc ∧ E.chan = F.chan ∧ E.side = F.side ∧ E.tag = F.tag ∧ E.word = F.word ∧ E.name = F.name) := decide_eq_decide.2 ev_same
  rw [hd]
  simp only [BT_toList]
  repeat' split
  all_goals simp_all


set_option maxRecDepth 100000 in
set_option maxHeartbeats 40000000 in
theorem back_walk {w : World} {va vc vn : Value} {kd sd tg wd od : Int} {E E2 : EventD} {SS S1 T : ByteArray} {a c : Int}
    (hW : Gives w 20 #[] (.bool true)) (hEv : Gives w 23 #[.agg #[.int .u8 kd, va, vc, vn, .int .u8 sd, .int .u8 tg, .int .i64 wd, .int .u8 od]] (.agg (evC E)))
    (hT : Gives w 21 #[.agg (evC E)] (.tuple #[.string T, .int .i64 a]))
    (hP : a = 0 ∧ Gives w 24 #[.string T] (.tuple #[.agg (evC E), .int .i64 0]) ∨ a = 2 ∧ T = ⟨#[]⟩)
    (hcut : SS.extract 0 (min SS.size 1000) = S1) (hsz : SS.size ≤ 9223372036854775807)
    (hP2 : Gives w 24 #[.string S1] (.tuple #[.agg (evC E2), .int .i64 c]))
    (hT2 : c = 5 ∧ E2 = zeroE ∨ c = 0 ∧ Gives w 21 #[.agg (evC E2)] (.tuple #[.string S1, .int .i64 0])) :
    Calls Tryz.prog 6 #[.agg #[.int .u8 kd, va, vc, vn, .int .u8 sd, .int .u8 tg, .int .i64 wd, .int .u8 od], .string SS] w fun e w' => e = .returned (.bool true) ∧ Turn Nn w w' := by
  obtain ⟨w1, e1⟩ : ∃ w1, w.alloc (.cells #[.int .u8 kd, va, vc, vn, .int .u8 sd, .int .u8 tg, .int .i64 wd, .int .u8 od] 36) = w1 := ⟨_, rfl⟩
  obtain ⟨b1, t1⟩ := alloc1 e1
  obtain ⟨n, hn⟩ : ∃ n, w.heap.size = n := ⟨_, rfl⟩
  rw [hn] at b1
  have B1 := Lib.hid b1
  have T1 := Lib.hid t1
  obtain ⟨m, hm⟩ : ∃ m, min SS.size 1000 = m := ⟨_, rfl⟩
  have hml : m ≤ SS.size := by omega
  have hmin : ∀ W, (Builtin.min_ #[3, 3] 3 #[.int .i64 SS.size, .int .i64 1000]).run Tryz.prog W = .ok (.int .i64 (m : Int)) W := fun W => by
    rw [run_min_int2]
    congr 2
    split <;> omega
  rw [hm] at hcut
  have HMIN := Lib.hid hmin
  have HCUT := Lib.hid hcut
  have hneq : ∀ W, (binOp BinOp.neq 34 (.agg #[.int .i64 (E.kind), .int .i64 (E.slot), .string (BT E.actor), .int .i64 (E.pc), .string (BT E.chan), .int .i64 (E.side), .int .i64 (E.tag), .int .i64 (E.word), .string (BT E.name)]) (.agg #[.int .i64 (E.kind), .int .i64 (E.slot), .string (BT E.actor), .int .i64 (E.pc), .string (BT E.chan), .int .i64 (E.side), .int .i64 (E.tag), .int .i64 (E.word), .string (BT E.name)])).run Tryz.prog W = .ok (.bool false) W := fun W => by
    have := ev_neq E E W
    rw [decide_eq_true rfl] at this
    exact this
  have hzz : ∀ W, (binOp BinOp.eql 34 (.agg #[.int .i64 0, .int .i64 0, .string ⟨#[]⟩, .int .i64 0, .string ⟨#[]⟩, .int .i64 0, .int .i64 0, .int .i64 0, .string ⟨#[]⟩]) (.agg #[.int .i64 0, .int .i64 0, .string ⟨#[]⟩, .int .i64 0, .string ⟨#[]⟩, .int .i64 0, .int .i64 0, .int .i64 0, .string ⟨#[]⟩])).run Tryz.prog W = .ok (.bool true) W := fun W => (ev_eql zeroE zeroE W).trans (by rw [decide_eq_true rfl])
  have HNEQ := Lib.hid hneq
  have HZZ := Lib.hid hzz
  clear b1 t1 hm hmin hcut hneq hzz
  go_enter Tryz.func6, Tryz.ntmps6
  go_wp2_with fail
  refine (hW _ T1.out).mono ?_
  rintro e w2 ⟨rfl, t2⟩
  have T2 := Lib.hid (T1.out.trans t2)
  have B2 : Hid (w2.heap[n]? = some (.cells #[.int .u8 kd, va, vc, vn, .int .u8 sd, .int .u8 tg, .int .i64 wd, .int .u8 od] 36)) := Lib.hid ((t2.block _ (heap_lt B1.out) (fun h => h)).trans B1.out)
  clear t2 B1
  have a0 : w2.cell? ⟨n, 0, none⟩ = some (.int .u8 kd) := cell_blk B2.out
  have a1 : w2.cell? ⟨n, 1, none⟩ = some (va) := cell_blk B2.out
  have a2 : w2.cell? ⟨n, 2, none⟩ = some (vc) := cell_blk B2.out
  have a3 : w2.cell? ⟨n, 3, none⟩ = some (vn) := cell_blk B2.out
  have a4 : w2.cell? ⟨n, 4, none⟩ = some (.int .u8 sd) := cell_blk B2.out
  have a5 : w2.cell? ⟨n, 5, none⟩ = some (.int .u8 tg) := cell_blk B2.out
  have a6 : w2.cell? ⟨n, 6, none⟩ = some (.int .i64 wd) := cell_blk B2.out
  have a7 : w2.cell? ⟨n, 7, none⟩ = some (.int .u8 od) := cell_blk B2.out
  go_wp2_with fail
  refine (hEv _ T2.out).mono ?_
  rintro e w3 ⟨rfl, t⟩
  have T3 := Lib.hid (T2.out.trans t)
  clear t a0 a1 a2 a3 a4 a5 a6 a7
  obtain ⟨q1, b1, c1, hq1, eb1, Bb1, ec1, Bc1, tb1, tc1⟩ := evbox w3 E
  have fc1 : (((((((((b1.setCell ⟨q1, 0, none⟩ (.int .i64 (E.kind))).setCell ⟨q1, 1, none⟩ (.int .i64 (E.slot))).setCell ⟨q1, 2, none⟩ (.string (BT E.actor))).setCell ⟨q1, 3, none⟩ (.int .i64 (E.pc))).setCell ⟨q1, 4, none⟩ (.string (BT E.chan))).setCell ⟨q1, 5, none⟩ (.int .i64 (E.side))).setCell ⟨q1, 6, none⟩ (.int .i64 (E.tag))).setCell ⟨q1, 7, none⟩ (.int .i64 (E.word))).setCell ⟨q1, 8, none⟩ (.string (BT E.name))) = c1 := ec1
  obtain ⟨y0, y1, y2, y3, y4, y5, y6, y7, y8⟩ : b1.cell? ⟨q1, 0, none⟩ = some (.int .i64 0) ∧ b1.cell? ⟨q1, 1, none⟩ = some (.int .i64 0) ∧ b1.cell? ⟨q1, 2, none⟩ = some (.string ⟨#[]⟩) ∧ b1.cell? ⟨q1, 3, none⟩ = some (.int .i64 0) ∧ b1.cell? ⟨q1, 4, none⟩ = some (.string ⟨#[]⟩) ∧ b1.cell? ⟨q1, 5, none⟩ = some (.int .i64 0) ∧ b1.cell? ⟨q1, 6, none⟩ = some (.int .i64 0) ∧ b1.cell? ⟨q1, 7, none⟩ = some (.int .i64 0) ∧ b1.cell? ⟨q1, 8, none⟩ = some (.string ⟨#[]⟩) := evCells Bb1
  obtain ⟨z0, z1, z2, z3, z4, z5, z6, z7, z8⟩ := evFree Bb1
  have Hc1 := Lib.hid Bc1
  have T4 := Lib.hid (T3.out.trans tc1)
  have Kc1 := Lib.hid tc1
  clear Bb1 Bc1 ec1 tb1 tc1
  obtain ⟨x0, x1, x2, x3, x4, x5, x6, x7, x8⟩ : c1.cell? ⟨q1, 0, none⟩ = some (.int .i64 (E.kind)) ∧ c1.cell? ⟨q1, 1, none⟩ = some (.int .i64 (E.slot)) ∧ c1.cell? ⟨q1, 2, none⟩ = some (.string (BT E.actor)) ∧ c1.cell? ⟨q1, 3, none⟩ = some (.int .i64 (E.pc)) ∧ c1.cell? ⟨q1, 4, none⟩ = some (.string (BT E.chan)) ∧ c1.cell? ⟨q1, 5, none⟩ = some (.int .i64 (E.side)) ∧ c1.cell? ⟨q1, 6, none⟩ = some (.int .i64 (E.tag)) ∧ c1.cell? ⟨q1, 7, none⟩ = some (.int .i64 (E.word)) ∧ c1.cell? ⟨q1, 8, none⟩ = some (.string (BT E.name)) := evCells Hc1.out
  unfold evC
  go_wp2_with fail
  clear y0 y1 y2 y3 y4 y5 y6 y7 y8 z0 z1 z2 z3 z4 z5 z6 z7 z8
  clear x0 x1 x2 x3 x4 x5 x6 x7 x8
  refine (hT _ T4.out).mono ?_
  rintro e w5 ⟨rfl, t⟩
  have T5 := Lib.hid (T4.out.trans t)
  have H5 := Lib.hid (Hc1.out.turn t)
  clear t
  rcases hP with ⟨rfl, hP⟩ | ⟨rfl, rfl⟩
  · go_wp2_with fail
    refine (hP _ T5.out).mono ?_
    rintro e w6 ⟨rfl, t⟩
    have T6 := Lib.hid (T5.out.trans t)
    have H6 := Lib.hid (H5.out.turn t)
    clear t
    obtain ⟨q6, b6, c6, hq6, eb6, Bb6, ec6, Bc6, tb6, tc6⟩ := evbox w6 E
    have fc6 : (((((((((b6.setCell ⟨q6, 0, none⟩ (.int .i64 (E.kind))).setCell ⟨q6, 1, none⟩ (.int .i64 (E.slot))).setCell ⟨q6, 2, none⟩ (.string (BT E.actor))).setCell ⟨q6, 3, none⟩ (.int .i64 (E.pc))).setCell ⟨q6, 4, none⟩ (.string (BT E.chan))).setCell ⟨q6, 5, none⟩ (.int .i64 (E.side))).setCell ⟨q6, 6, none⟩ (.int .i64 (E.tag))).setCell ⟨q6, 7, none⟩ (.int .i64 (E.word))).setCell ⟨q6, 8, none⟩ (.string (BT E.name))) = c6 := ec6
    obtain ⟨y0, y1, y2, y3, y4, y5, y6, y7, y8⟩ : b6.cell? ⟨q6, 0, none⟩ = some (.int .i64 0) ∧ b6.cell? ⟨q6, 1, none⟩ = some (.int .i64 0) ∧ b6.cell? ⟨q6, 2, none⟩ = some (.string ⟨#[]⟩) ∧ b6.cell? ⟨q6, 3, none⟩ = some (.int .i64 0) ∧ b6.cell? ⟨q6, 4, none⟩ = some (.string ⟨#[]⟩) ∧ b6.cell? ⟨q6, 5, none⟩ = some (.int .i64 0) ∧ b6.cell? ⟨q6, 6, none⟩ = some (.int .i64 0) ∧ b6.cell? ⟨q6, 7, none⟩ = some (.int .i64 0) ∧ b6.cell? ⟨q6, 8, none⟩ = some (.string ⟨#[]⟩) := evCells Bb6
    obtain ⟨z0, z1, z2, z3, z4, z5, z6, z7, z8⟩ := evFree Bb6
    have Hc6 := Lib.hid Bc6
    have T7 := Lib.hid (T6.out.trans tc6)
    have Kc6 := Lib.hid tc6
    clear Bb6 Bc6 ec6 tb6 tc6
    have H7 := Lib.hid (H6.out.turn Kc6.out)
    obtain ⟨x0, x1, x2, x3, x4, x5, x6, x7, x8⟩ : c6.cell? ⟨q6, 0, none⟩ = some (.int .i64 (E.kind)) ∧ c6.cell? ⟨q6, 1, none⟩ = some (.int .i64 (E.slot)) ∧ c6.cell? ⟨q6, 2, none⟩ = some (.string (BT E.actor)) ∧ c6.cell? ⟨q6, 3, none⟩ = some (.int .i64 (E.pc)) ∧ c6.cell? ⟨q6, 4, none⟩ = some (.string (BT E.chan)) ∧ c6.cell? ⟨q6, 5, none⟩ = some (.int .i64 (E.side)) ∧ c6.cell? ⟨q6, 6, none⟩ = some (.int .i64 (E.tag)) ∧ c6.cell? ⟨q6, 7, none⟩ = some (.int .i64 (E.word)) ∧ c6.cell? ⟨q6, 8, none⟩ = some (.string (BT E.name)) := evCells Hc6.out
    obtain ⟨v0, v1, v2, v3, v4, v5, v6, v7, v8⟩ : c6.cell? ⟨q1, 0, none⟩ = some (.int .i64 (E.kind)) ∧ c6.cell? ⟨q1, 1, none⟩ = some (.int .i64 (E.slot)) ∧ c6.cell? ⟨q1, 2, none⟩ = some (.string (BT E.actor)) ∧ c6.cell? ⟨q1, 3, none⟩ = some (.int .i64 (E.pc)) ∧ c6.cell? ⟨q1, 4, none⟩ = some (.string (BT E.chan)) ∧ c6.cell? ⟨q1, 5, none⟩ = some (.int .i64 (E.side)) ∧ c6.cell? ⟨q1, 6, none⟩ = some (.int .i64 (E.tag)) ∧ c6.cell? ⟨q1, 7, none⟩ = some (.int .i64 (E.word)) ∧ c6.cell? ⟨q1, 8, none⟩ = some (.string (BT E.name)) := evCells H7.out
    have hneq := HNEQ.out
    unfold evC
    have hmin := HMIN.out
    have hcut := HCUT.out
    go_wp2_with fail
    clear hmin hcut
    refine (hP2 _ T7.out).mono ?_
    rintro e w9 ⟨rfl, t⟩
    have T9 := Lib.hid (T7.out.trans t)
    clear t
    rcases hT2 with ⟨rfl, rfl⟩ | ⟨rfl, hT2⟩
    · obtain ⟨q9, b9, c9, hq9, eb9, Bb9, ec9, Bc9, tb9, tc9⟩ := evbox w9 zeroE
      have fc9 : (((((((((b9.setCell ⟨q9, 0, none⟩ (.int .i64 0)).setCell ⟨q9, 1, none⟩ (.int .i64 0)).setCell ⟨q9, 2, none⟩ (.string ⟨#[]⟩)).setCell ⟨q9, 3, none⟩ (.int .i64 0)).setCell ⟨q9, 4, none⟩ (.string ⟨#[]⟩)).setCell ⟨q9, 5, none⟩ (.int .i64 0)).setCell ⟨q9, 6, none⟩ (.int .i64 0)).setCell ⟨q9, 7, none⟩ (.int .i64 0)).setCell ⟨q9, 8, none⟩ (.string ⟨#[]⟩)) = c9 := ec9
      obtain ⟨y0, y1, y2, y3, y4, y5, y6, y7, y8⟩ : b9.cell? ⟨q9, 0, none⟩ = some (.int .i64 0) ∧ b9.cell? ⟨q9, 1, none⟩ = some (.int .i64 0) ∧ b9.cell? ⟨q9, 2, none⟩ = some (.string ⟨#[]⟩) ∧ b9.cell? ⟨q9, 3, none⟩ = some (.int .i64 0) ∧ b9.cell? ⟨q9, 4, none⟩ = some (.string ⟨#[]⟩) ∧ b9.cell? ⟨q9, 5, none⟩ = some (.int .i64 0) ∧ b9.cell? ⟨q9, 6, none⟩ = some (.int .i64 0) ∧ b9.cell? ⟨q9, 7, none⟩ = some (.int .i64 0) ∧ b9.cell? ⟨q9, 8, none⟩ = some (.string ⟨#[]⟩) := evCells Bb9
      obtain ⟨z0, z1, z2, z3, z4, z5, z6, z7, z8⟩ := evFree Bb9
      have Hc9 := Lib.hid Bc9
      have T10 := Lib.hid (T9.out.trans tc9)
      have Kc9 := Lib.hid tc9
      clear Bb9 Bc9 ec9 tb9 tc9
      obtain ⟨x0, x1, x2, x3, x4, x5, x6, x7, x8⟩ : c9.cell? ⟨q9, 0, none⟩ = some (.int .i64 0) ∧ c9.cell? ⟨q9, 1, none⟩ = some (.int .i64 0) ∧ c9.cell? ⟨q9, 2, none⟩ = some (.string ⟨#[]⟩) ∧ c9.cell? ⟨q9, 3, none⟩ = some (.int .i64 0) ∧ c9.cell? ⟨q9, 4, none⟩ = some (.string ⟨#[]⟩) ∧ c9.cell? ⟨q9, 5, none⟩ = some (.int .i64 0) ∧ c9.cell? ⟨q9, 6, none⟩ = some (.int .i64 0) ∧ c9.cell? ⟨q9, 7, none⟩ = some (.int .i64 0) ∧ c9.cell? ⟨q9, 8, none⟩ = some (.string ⟨#[]⟩) := evCells Hc9.out
      have hzz := HZZ.out
      rw [show evC zeroE = #[.int .i64 0, .int .i64 0, .string ⟨#[]⟩, .int .i64 0, .string ⟨#[]⟩, .int .i64 0, .int .i64 0, .int .i64 0, .string ⟨#[]⟩] from rfl]
      go_wp2_with fail
      go_ret
      exact ⟨rfl, T10.out⟩
    · obtain ⟨q9, b9, c9, hq9, eb9, Bb9, ec9, Bc9, tb9, tc9⟩ := evbox w9 E2
      have fc9 : (((((((((b9.setCell ⟨q9, 0, none⟩ (.int .i64 (E2.kind))).setCell ⟨q9, 1, none⟩ (.int .i64 (E2.slot))).setCell ⟨q9, 2, none⟩ (.string (BT E2.actor))).setCell ⟨q9, 3, none⟩ (.int .i64 (E2.pc))).setCell ⟨q9, 4, none⟩ (.string (BT E2.chan))).setCell ⟨q9, 5, none⟩ (.int .i64 (E2.side))).setCell ⟨q9, 6, none⟩ (.int .i64 (E2.tag))).setCell ⟨q9, 7, none⟩ (.int .i64 (E2.word))).setCell ⟨q9, 8, none⟩ (.string (BT E2.name))) = c9 := ec9
      obtain ⟨y0, y1, y2, y3, y4, y5, y6, y7, y8⟩ : b9.cell? ⟨q9, 0, none⟩ = some (.int .i64 0) ∧ b9.cell? ⟨q9, 1, none⟩ = some (.int .i64 0) ∧ b9.cell? ⟨q9, 2, none⟩ = some (.string ⟨#[]⟩) ∧ b9.cell? ⟨q9, 3, none⟩ = some (.int .i64 0) ∧ b9.cell? ⟨q9, 4, none⟩ = some (.string ⟨#[]⟩) ∧ b9.cell? ⟨q9, 5, none⟩ = some (.int .i64 0) ∧ b9.cell? ⟨q9, 6, none⟩ = some (.int .i64 0) ∧ b9.cell? ⟨q9, 7, none⟩ = some (.int .i64 0) ∧ b9.cell? ⟨q9, 8, none⟩ = some (.string ⟨#[]⟩) := evCells Bb9
      obtain ⟨z0, z1, z2, z3, z4, z5, z6, z7, z8⟩ := evFree Bb9
      have Hc9 := Lib.hid Bc9
      have T10 := Lib.hid (T9.out.trans tc9)
      have Kc9 := Lib.hid tc9
      clear Bb9 Bc9 ec9 tb9 tc9
      obtain ⟨x0, x1, x2, x3, x4, x5, x6, x7, x8⟩ : c9.cell? ⟨q9, 0, none⟩ = some (.int .i64 (E2.kind)) ∧ c9.cell? ⟨q9, 1, none⟩ = some (.int .i64 (E2.slot)) ∧ c9.cell? ⟨q9, 2, none⟩ = some (.string (BT E2.actor)) ∧ c9.cell? ⟨q9, 3, none⟩ = some (.int .i64 (E2.pc)) ∧ c9.cell? ⟨q9, 4, none⟩ = some (.string (BT E2.chan)) ∧ c9.cell? ⟨q9, 5, none⟩ = some (.int .i64 (E2.side)) ∧ c9.cell? ⟨q9, 6, none⟩ = some (.int .i64 (E2.tag)) ∧ c9.cell? ⟨q9, 7, none⟩ = some (.int .i64 (E2.word)) ∧ c9.cell? ⟨q9, 8, none⟩ = some (.string (BT E2.name)) := evCells Hc9.out
      unfold evC
      go_wp2_with fail
      clear y0 y1 y2 y3 y4 y5 y6 y7 y8 z0 z1 z2 z3 z4 z5 z6 z7 z8
      clear x0 x1 x2 x3 x4 x5 x6 x7 x8
      refine (hT2 _ T10.out).mono ?_
      rintro e w11 ⟨rfl, t⟩
      have T11 := Lib.hid (T10.out.trans t)
      clear t
      go_wp2_with fail
      go_ret
      exact ⟨rfl, T11.out⟩
  · have hmin := HMIN.out
    have hcut := HCUT.out
    go_wp2_with fail
    clear hmin hcut
    refine (hP2 _ T5.out).mono ?_
    rintro e w9 ⟨rfl, t⟩
    have T9 := Lib.hid (T5.out.trans t)
    clear t
    rcases hT2 with ⟨rfl, rfl⟩ | ⟨rfl, hT2⟩
    · obtain ⟨q9, b9, c9, hq9, eb9, Bb9, ec9, Bc9, tb9, tc9⟩ := evbox w9 zeroE
      have fc9 : (((((((((b9.setCell ⟨q9, 0, none⟩ (.int .i64 0)).setCell ⟨q9, 1, none⟩ (.int .i64 0)).setCell ⟨q9, 2, none⟩ (.string ⟨#[]⟩)).setCell ⟨q9, 3, none⟩ (.int .i64 0)).setCell ⟨q9, 4, none⟩ (.string ⟨#[]⟩)).setCell ⟨q9, 5, none⟩ (.int .i64 0)).setCell ⟨q9, 6, none⟩ (.int .i64 0)).setCell ⟨q9, 7, none⟩ (.int .i64 0)).setCell ⟨q9, 8, none⟩ (.string ⟨#[]⟩)) = c9 := ec9
      obtain ⟨y0, y1, y2, y3, y4, y5, y6, y7, y8⟩ : b9.cell? ⟨q9, 0, none⟩ = some (.int .i64 0) ∧ b9.cell? ⟨q9, 1, none⟩ = some (.int .i64 0) ∧ b9.cell? ⟨q9, 2, none⟩ = some (.string ⟨#[]⟩) ∧ b9.cell? ⟨q9, 3, none⟩ = some (.int .i64 0) ∧ b9.cell? ⟨q9, 4, none⟩ = some (.string ⟨#[]⟩) ∧ b9.cell? ⟨q9, 5, none⟩ = some (.int .i64 0) ∧ b9.cell? ⟨q9, 6, none⟩ = some (.int .i64 0) ∧ b9.cell? ⟨q9, 7, none⟩ = some (.int .i64 0) ∧ b9.cell? ⟨q9, 8, none⟩ = some (.string ⟨#[]⟩) := evCells Bb9
      obtain ⟨z0, z1, z2, z3, z4, z5, z6, z7, z8⟩ := evFree Bb9
      have Hc9 := Lib.hid Bc9
      have T10 := Lib.hid (T9.out.trans tc9)
      have Kc9 := Lib.hid tc9
      clear Bb9 Bc9 ec9 tb9 tc9
      obtain ⟨x0, x1, x2, x3, x4, x5, x6, x7, x8⟩ : c9.cell? ⟨q9, 0, none⟩ = some (.int .i64 0) ∧ c9.cell? ⟨q9, 1, none⟩ = some (.int .i64 0) ∧ c9.cell? ⟨q9, 2, none⟩ = some (.string ⟨#[]⟩) ∧ c9.cell? ⟨q9, 3, none⟩ = some (.int .i64 0) ∧ c9.cell? ⟨q9, 4, none⟩ = some (.string ⟨#[]⟩) ∧ c9.cell? ⟨q9, 5, none⟩ = some (.int .i64 0) ∧ c9.cell? ⟨q9, 6, none⟩ = some (.int .i64 0) ∧ c9.cell? ⟨q9, 7, none⟩ = some (.int .i64 0) ∧ c9.cell? ⟨q9, 8, none⟩ = some (.string ⟨#[]⟩) := evCells Hc9.out
      have hzz := HZZ.out
      rw [show evC zeroE = #[.int .i64 0, .int .i64 0, .string ⟨#[]⟩, .int .i64 0, .string ⟨#[]⟩, .int .i64 0, .int .i64 0, .int .i64 0, .string ⟨#[]⟩] from rfl]
      go_wp2_with fail
      go_ret
      exact ⟨rfl, T10.out⟩
    · obtain ⟨q9, b9, c9, hq9, eb9, Bb9, ec9, Bc9, tb9, tc9⟩ := evbox w9 E2
      have fc9 : (((((((((b9.setCell ⟨q9, 0, none⟩ (.int .i64 (E2.kind))).setCell ⟨q9, 1, none⟩ (.int .i64 (E2.slot))).setCell ⟨q9, 2, none⟩ (.string (BT E2.actor))).setCell ⟨q9, 3, none⟩ (.int .i64 (E2.pc))).setCell ⟨q9, 4, none⟩ (.string (BT E2.chan))).setCell ⟨q9, 5, none⟩ (.int .i64 (E2.side))).setCell ⟨q9, 6, none⟩ (.int .i64 (E2.tag))).setCell ⟨q9, 7, none⟩ (.int .i64 (E2.word))).setCell ⟨q9, 8, none⟩ (.string (BT E2.name))) = c9 := ec9
      obtain ⟨y0, y1, y2, y3, y4, y5, y6, y7, y8⟩ : b9.cell? ⟨q9, 0, none⟩ = some (.int .i64 0) ∧ b9.cell? ⟨q9, 1, none⟩ = some (.int .i64 0) ∧ b9.cell? ⟨q9, 2, none⟩ = some (.string ⟨#[]⟩) ∧ b9.cell? ⟨q9, 3, none⟩ = some (.int .i64 0) ∧ b9.cell? ⟨q9, 4, none⟩ = some (.string ⟨#[]⟩) ∧ b9.cell? ⟨q9, 5, none⟩ = some (.int .i64 0) ∧ b9.cell? ⟨q9, 6, none⟩ = some (.int .i64 0) ∧ b9.cell? ⟨q9, 7, none⟩ = some (.int .i64 0) ∧ b9.cell? ⟨q9, 8, none⟩ = some (.string ⟨#[]⟩) := evCells Bb9
      obtain ⟨z0, z1, z2, z3, z4, z5, z6, z7, z8⟩ := evFree Bb9
      have Hc9 := Lib.hid Bc9
      have T10 := Lib.hid (T9.out.trans tc9)
      have Kc9 := Lib.hid tc9
      clear Bb9 Bc9 ec9 tb9 tc9
      obtain ⟨x0, x1, x2, x3, x4, x5, x6, x7, x8⟩ : c9.cell? ⟨q9, 0, none⟩ = some (.int .i64 (E2.kind)) ∧ c9.cell? ⟨q9, 1, none⟩ = some (.int .i64 (E2.slot)) ∧ c9.cell? ⟨q9, 2, none⟩ = some (.string (BT E2.actor)) ∧ c9.cell? ⟨q9, 3, none⟩ = some (.int .i64 (E2.pc)) ∧ c9.cell? ⟨q9, 4, none⟩ = some (.string (BT E2.chan)) ∧ c9.cell? ⟨q9, 5, none⟩ = some (.int .i64 (E2.side)) ∧ c9.cell? ⟨q9, 6, none⟩ = some (.int .i64 (E2.tag)) ∧ c9.cell? ⟨q9, 7, none⟩ = some (.int .i64 (E2.word)) ∧ c9.cell? ⟨q9, 8, none⟩ = some (.string (BT E2.name)) := evCells Hc9.out
      unfold evC
      go_wp2_with fail
      clear y0 y1 y2 y3 y4 y5 y6 y7 y8 z0 z1 z2 z3 z4 z5 z6 z7 z8
      clear x0 x1 x2 x3 x4 x5 x6 x7 x8
      refine (hT2 _ T10.out).mono ?_
      rintro e w11 ⟨rfl, t⟩
      have T11 := Lib.hid (T10.out.trans t)
      clear t
      go_wp2_with fail
      go_ret
      exact ⟨rfl, T11.out⟩
end
section
set_option linter.unusedSimpArgs false
set_option linter.unusedVariables false
open Go.RowKit Go.Shelf Go.Lib

set_option maxRecDepth 100000 in
set_option maxHeartbeats 16000000 in
theorem name2_some {w : World} {bb oo cap N m k : Nat} {x y : Int} {Nn1 DD : Bs} (hc : w.cell? ⟨bb, oo, none⟩ = some (.int .u8 x)) (hx : 0 ≤ x ∧ x < 256) (hy : x % 2 = y) (hm : min (N : Int) 20 = (m : Int)) (hm1 : 1 ≤ m) (hmk : k + 1 = m) (hmc : m ≤ cap) (hmn : m ≤ N) (hn : N ≤ cap) {aa : Addr} (haa : (if cap = 1 then some (⟨bb, oo, none⟩ : Addr) else some ⟨bb, oo + 1, none⟩) = some aa)
    (hN : Gives w 9 #[.slice (some aa) k (cap - 1), .int .i64 1] (.string (BT Nn1))) (hD : Gives w 26 #[.int .u8 y] (.string (BT DD))) (hl : Nn1.length + DD.length ≤ 1000) :
    Calls Tryz.prog 9 #[.slice (some ⟨bb, oo, none⟩) N cap, .int .i64 2] w fun e w' => e = .returned (.string (BT (Nn1 ++ 58 :: DD))) ∧ Turn Nn w w' := by
  have hcat1 : ∀ W, (Op.stringOp .add (BT Nn1) ⟨#[58]⟩).run Tryz.prog W = .ok (.string (BT (Nn1 ++ [58]))) W := fun W => cat_run (b := [58]) (by simp; omega) W
  have hcat2 : ∀ W, (Op.stringOp .add (BT (Nn1 ++ [58])) (BT DD)).run Tryz.prog W = .ok (.string (BT (Nn1 ++ 58 :: DD))) W := fun W => by
    rw [cat_run (by simp; omega) W]
    simp
  have HCAT1 := Lib.hid hcat1
  have HCAT2 := Lib.hid hcat2
  clear hcat1 hcat2 hl
  have hy2 : x.tmod 2 = y := by rw [← hy]; exact Int.tmod_eq_emod_of_nonneg (by omega)
  have hy3 : IntKind.u8.wrap y = y := IntWalk.u8_in _ (by omega)
  have hk : m - 1 = k := by omega
  have hm0 : ¬ (m : Int) = 0 := by omega
  have hmb : ((m : Int) == 0) = false := by simp; omega
  have hm1i : (1 : Int) ≤ (m : Int) := by omega
  have hm0n : 0 < m := by omega
  have T := Lib.hid (Turn.refl Nn w)
  have HC := Lib.hid hc
  clear hx hy hmk hc
  go_enter Tryz.func9, Tryz.ntmps9
  go_upto_region 5 with (fail)
  refine held_begin (fun u => u.cell? ⟨bb, oo, none⟩ = some (.int .u8 x)) (by kernel_rfl) ?_
  have T0 : Hid (Turn Nn w w.drew) := Lib.hid (T.out.trans (Turn.refl Nn w).drew)
  have S0 : Hid (World.cell? w.drew ⟨bb, oo, none⟩ = some (.int .u8 x)) := Lib.hid (cell_turn (Turn.refl Nn w).drew HC.out)
  generalize World.drew w = ws at T0 S0 ⊢
  refine held_take 0 ?_ rfl (by kernel_rfl) (by kernel_rfl) (by kernel_rfl) (fun _ _ _ h => h) (Or.inl ⟨by kernel_rfl, ?_⟩) S0.out ?_
  rotate_left 1
  · intro u hu; go_simp; first | done | with_reducible rfl
  try simp only [Act.put, nA, nB, nC, nD, nE, nF]
  refine held_take 1 ?_ rfl (by kernel_rfl) (by kernel_rfl) (by kernel_rfl) (fun _ _ _ h => h) (Or.inl ⟨by kernel_rfl, ?_⟩) S0.out ?_
  rotate_left 1
  · intro u hu; go_simp; first | done | with_reducible rfl
  try simp only [Act.put, nA, nB, nC, nD, nE, nF]
  refine held_take 4 ?_ rfl (by kernel_rfl) (by kernel_rfl) (by kernel_rfl) (fun _ _ _ h => h) (Or.inl ⟨by kernel_rfl, ?_⟩) S0.out ?_
  rotate_left 1
  · intro u hu; go_simp; first | done | with_reducible rfl
  try simp only [Act.put, nA, nB, nC, nD, nE, nF]
  refine held_take 5 ?_ rfl (by kernel_rfl) (by kernel_rfl) (by kernel_rfl) (fun _ _ _ h => h) (Or.inl ⟨by kernel_rfl, ?_⟩) S0.out ?_
  rotate_left 1
  · intro u hu; go_simp; first | done | with_reducible rfl
  try simp only [Act.put, nA, nB, nC, nD, nE, nF]
  refine held_take 6 ?_ rfl (by kernel_rfl) (by kernel_rfl) (by kernel_rfl) (fun _ _ _ h => h) (Or.inl ⟨by kernel_rfl, ?_⟩) S0.out ?_
  rotate_left 1
  · intro u hu; go_simp; first | done | with_reducible rfl
  try simp only [Act.put, nA, nB, nC, nD, nE, nF]
  refine held_take 7 ?_ rfl (by kernel_rfl) (by kernel_rfl) (by kernel_rfl) (fun _ _ _ h => h) (Or.inl ⟨by kernel_rfl, ?_⟩) S0.out ?_
  rotate_left 1
  · intro u hu; go_simp; first | done | with_reducible rfl
  try simp only [Act.put, nA, nB, nC, nD, nE, nF]
  refine held_call 2 (by kernel_rfl) rfl (by kernel_rfl) (by first | rfl | go_simp) (hN _ T0.out) ?_ (fun c u h => by cases h.1) (fun u h => by cases h.1)
  rintro v u ⟨he, t⟩
  cases he
  have T1 := Lib.hid (T0.out.trans t)
  have S1 := Lib.hid (cell_turn t S0.out)
  clear t
  refine ⟨S1.out, ?_⟩
  try simp only [Act.put, nA, nB, nC, nD, nE, nF]
  have hcat1 := HCAT1.out
  refine held_take 3 ?_ rfl (by kernel_rfl) (by kernel_rfl) (by kernel_rfl) (fun _ _ _ h => h) (Or.inl ⟨by kernel_rfl, ?_⟩) S1.out ?_
  rotate_left 1
  · intro u hu; go_simp; first | done | with_reducible rfl
  try simp only [Act.put, nA, nB, nC, nD, nE, nF]
  clear hcat1
  refine held_call 8 (by kernel_rfl) rfl (by kernel_rfl) (by first | rfl | go_simp) (hD _ T1.out) ?_ (fun c u h => by cases h.1) (fun u h => by cases h.1)
  rintro v u ⟨he, t⟩
  cases he
  have T2 := Lib.hid (T1.out.trans t)
  have S2 := Lib.hid (cell_turn t S1.out)
  clear t
  refine ⟨S2.out, ?_⟩
  try simp only [Act.put, nA, nB, nC, nD, nE, nF]
  have hcat2 := HCAT2.out
  refine held_take 9 ?_ rfl (by kernel_rfl) (by kernel_rfl) (by kernel_rfl) (fun _ _ _ h => h) (Or.inl ⟨by kernel_rfl, ?_⟩) S2.out ?_
  rotate_left 1
  · intro u hu; go_simp; first | done | with_reducible rfl
  try simp only [Act.put, nA, nB, nC, nD, nE, nF]
  clear hcat2
  refine held_take 10 ?_ rfl (by kernel_rfl) (by kernel_rfl) (by kernel_rfl) (fun _ _ _ h => h) (Or.inl ⟨by kernel_rfl, ?_⟩) S2.out ?_
  rotate_left 1
  · intro u hu; go_simp; first | done | with_reducible rfl
  try simp only [Act.put, nA, nB, nC, nD, nE, nF]
  refine wpAnyH_done (by kernel_rfl) ?_ _
  go_wp2_with fail
  go_ret
  exact ⟨rfl, T2.out⟩
set_option maxRecDepth 100000 in
set_option maxHeartbeats 16000000 in
theorem name2_nil {w : World} {Nn1 DD : Bs} (hN : ∀ b, Gives w 9 #[.slice (some b) 0 0, .int .i64 1] (.string (BT Nn1))) (hD : Gives w 26 #[.int .u8 0] (.string (BT DD))) (hl : Nn1.length + DD.length ≤ 1000) :
    Calls Tryz.prog 9 #[.slice none 0 0, .int .i64 2] w fun e w' => e = .returned (.string (BT (Nn1 ++ 58 :: DD))) ∧ Turn Nn w w' := by
  have hcat1 : ∀ W, (Op.stringOp .add (BT Nn1) ⟨#[58]⟩).run Tryz.prog W = .ok (.string (BT (Nn1 ++ [58]))) W := fun W => cat_run (b := [58]) (by simp; omega) W
  have hcat2 : ∀ W, (Op.stringOp .add (BT (Nn1 ++ [58])) (BT DD)).run Tryz.prog W = .ok (.string (BT (Nn1 ++ 58 :: DD))) W := fun W => by
    rw [cat_run (by simp; omega) W]
    simp
  have HCAT1 := Lib.hid hcat1
  have HCAT2 := Lib.hid hcat2
  clear hcat1 hcat2 hl
  obtain ⟨w1, e1⟩ : ∃ w1, w.alloc (.cells #[.int .u8 0] 5) = w1 := ⟨_, rfl⟩
  obtain ⟨b1, t1⟩ := alloc1 e1
  obtain ⟨bb, hbb⟩ : ∃ bb, w.heap.size = bb := ⟨_, rfl⟩
  rw [hbb] at b1
  have HC : Hid (w1.cell? ⟨bb, 0, none⟩ = some (.int .u8 0)) := Lib.hid (cell_blk b1)
  have T := Lib.hid t1
  have hmx1 : (max (min (0 : Int) 20) 0 == 0) = true := by decide
  have hmx2 : max (min (0 : Int) 20) 0 = 0 := by decide
  clear b1 t1
  go_enter Tryz.func9, Tryz.ntmps9
  go_upto_region 5 with (fail)
  refine held_begin (fun u => u.cell? ⟨bb, 0, none⟩ = some (.int .u8 0)) (by kernel_rfl) ?_
  have T0 : Hid (Turn Nn w w1.drew) := Lib.hid (T.out.trans (Turn.refl Nn w1).drew)
  have S0 : Hid (World.cell? w1.drew ⟨bb, 0, none⟩ = some (.int .u8 0)) := Lib.hid (cell_turn (Turn.refl Nn w1).drew HC.out)
  generalize World.drew w1 = ws at T0 S0 ⊢
  refine held_take 0 ?_ rfl (by kernel_rfl) (by kernel_rfl) (by kernel_rfl) (fun _ _ _ h => h) (Or.inl ⟨by kernel_rfl, ?_⟩) S0.out ?_
  rotate_left 1
  · intro u hu; go_simp; first | done | with_reducible rfl
  try simp only [Act.put, nA, nB, nC, nD, nE, nF]
  refine held_take 1 ?_ rfl (by kernel_rfl) (by kernel_rfl) (by kernel_rfl) (fun _ _ _ h => h) (Or.inl ⟨by kernel_rfl, ?_⟩) S0.out ?_
  rotate_left 1
  · intro u hu; go_simp; first | done | with_reducible rfl
  try simp only [Act.put, nA, nB, nC, nD, nE, nF]
  refine held_take 4 ?_ rfl (by kernel_rfl) (by kernel_rfl) (by kernel_rfl) (fun _ _ _ h => h) (Or.inl ⟨by kernel_rfl, ?_⟩) S0.out ?_
  rotate_left 1
  · intro u hu; go_simp; first | done | with_reducible rfl
  try simp only [Act.put, nA, nB, nC, nD, nE, nF]
  refine held_take 5 ?_ rfl (by kernel_rfl) (by kernel_rfl) (by kernel_rfl) (fun _ _ _ h => h) (Or.inl ⟨by kernel_rfl, ?_⟩) S0.out ?_
  rotate_left 1
  · intro u hu; go_simp; first | done | with_reducible rfl
  try simp only [Act.put, nA, nB, nC, nD, nE, nF]
  refine held_take 6 ?_ rfl (by kernel_rfl) (by kernel_rfl) (by kernel_rfl) (fun _ _ _ h => h) (Or.inl ⟨by kernel_rfl, ?_⟩) S0.out ?_
  rotate_left 1
  · intro u hu; go_simp; first | done | with_reducible rfl
  try simp only [Act.put, nA, nB, nC, nD, nE, nF]
  refine held_take 7 ?_ rfl (by kernel_rfl) (by kernel_rfl) (by kernel_rfl) (fun _ _ _ h => h) (Or.inl ⟨by kernel_rfl, ?_⟩) S0.out ?_
  rotate_left 1
  · intro u hu; go_simp; first | done | with_reducible rfl
  try simp only [Act.put, nA, nB, nC, nD, nE, nF]
  refine held_call 2 (by kernel_rfl) rfl (by kernel_rfl) (by first | rfl | go_simp) (hN ⟨bb, 0, none⟩ _ T0.out) ?_ (fun c u h => by cases h.1) (fun u h => by cases h.1)
  rintro v u ⟨he, t⟩
  cases he
  have T1 := Lib.hid (T0.out.trans t)
  have S1 := Lib.hid (cell_turn t S0.out)
  clear t
  refine ⟨S1.out, ?_⟩
  try simp only [Act.put, nA, nB, nC, nD, nE, nF]
  have hcat1 := HCAT1.out
  refine held_take 3 ?_ rfl (by kernel_rfl) (by kernel_rfl) (by kernel_rfl) (fun _ _ _ h => h) (Or.inl ⟨by kernel_rfl, ?_⟩) S1.out ?_
  rotate_left 1
  · intro u hu; go_simp; first | done | with_reducible rfl
  try simp only [Act.put, nA, nB, nC, nD, nE, nF]
  clear hcat1
  refine held_call 8 (by kernel_rfl) rfl (by kernel_rfl) (by first | rfl | go_simp) (hD _ T1.out) ?_ (fun c u h => by cases h.1) (fun u h => by cases h.1)
  rintro v u ⟨he, t⟩
  cases he
  have T2 := Lib.hid (T1.out.trans t)
  have S2 := Lib.hid (cell_turn t S1.out)
  clear t
  refine ⟨S2.out, ?_⟩
  try simp only [Act.put, nA, nB, nC, nD, nE, nF]
  have hcat2 := HCAT2.out
  refine held_take 9 ?_ rfl (by kernel_rfl) (by kernel_rfl) (by kernel_rfl) (fun _ _ _ h => h) (Or.inl ⟨by kernel_rfl, ?_⟩) S2.out ?_
  rotate_left 1
  · intro u hu; go_simp; first | done | with_reducible rfl
  try simp only [Act.put, nA, nB, nC, nD, nE, nF]
  clear hcat2
  refine held_take 10 ?_ rfl (by kernel_rfl) (by kernel_rfl) (by kernel_rfl) (fun _ _ _ h => h) (Or.inl ⟨by kernel_rfl, ?_⟩) S2.out ?_
  rotate_left 1
  · intro u hu; go_simp; first | done | with_reducible rfl
  try simp only [Act.put, nA, nB, nC, nD, nE, nF]
  refine wpAnyH_done (by kernel_rfl) ?_ _
  go_wp2_with fail
  go_ret
  exact ⟨rfl, T2.out⟩
set_option maxRecDepth 100000 in
set_option maxHeartbeats 16000000 in
theorem name2_emp {w : World} {a : Addr} {cap : Nat} {Nn1 DD : Bs} (hN : ∀ b, Gives w 9 #[.slice (some b) 0 0, .int .i64 1] (.string (BT Nn1))) (hD : Gives w 26 #[.int .u8 0] (.string (BT DD))) (hl : Nn1.length + DD.length ≤ 1000) :
    Calls Tryz.prog 9 #[.slice (some a) 0 cap, .int .i64 2] w fun e w' => e = .returned (.string (BT (Nn1 ++ 58 :: DD))) ∧ Turn Nn w w' := by
  have hcat1 : ∀ W, (Op.stringOp .add (BT Nn1) ⟨#[58]⟩).run Tryz.prog W = .ok (.string (BT (Nn1 ++ [58]))) W := fun W => cat_run (b := [58]) (by simp; omega) W
  have hcat2 : ∀ W, (Op.stringOp .add (BT (Nn1 ++ [58])) (BT DD)).run Tryz.prog W = .ok (.string (BT (Nn1 ++ 58 :: DD))) W := fun W => by
    rw [cat_run (by simp; omega) W]
    simp
  have HCAT1 := Lib.hid hcat1
  have HCAT2 := Lib.hid hcat2
  clear hcat1 hcat2 hl
  obtain ⟨w1, e1⟩ : ∃ w1, w.alloc (.cells #[.int .u8 0] 5) = w1 := ⟨_, rfl⟩
  obtain ⟨b1, t1⟩ := alloc1 e1
  obtain ⟨bb, hbb⟩ : ∃ bb, w.heap.size = bb := ⟨_, rfl⟩
  rw [hbb] at b1
  have HC : Hid (w1.cell? ⟨bb, 0, none⟩ = some (.int .u8 0)) := Lib.hid (cell_blk b1)
  have T := Lib.hid t1
  have hmx1 : (max (min (0 : Int) 20) 0 == 0) = true := by decide
  have hmx2 : max (min (0 : Int) 20) 0 = 0 := by decide
  clear b1 t1
  go_enter Tryz.func9, Tryz.ntmps9
  go_upto_region 5 with (fail)
  refine held_begin (fun u => u.cell? ⟨bb, 0, none⟩ = some (.int .u8 0)) (by kernel_rfl) ?_
  have T0 : Hid (Turn Nn w w1.drew) := Lib.hid (T.out.trans (Turn.refl Nn w1).drew)
  have S0 : Hid (World.cell? w1.drew ⟨bb, 0, none⟩ = some (.int .u8 0)) := Lib.hid (cell_turn (Turn.refl Nn w1).drew HC.out)
  generalize World.drew w1 = ws at T0 S0 ⊢
  refine held_take 0 ?_ rfl (by kernel_rfl) (by kernel_rfl) (by kernel_rfl) (fun _ _ _ h => h) (Or.inl ⟨by kernel_rfl, ?_⟩) S0.out ?_
  rotate_left 1
  · intro u hu; go_simp; first | done | with_reducible rfl
  try simp only [Act.put, nA, nB, nC, nD, nE, nF]
  refine held_take 1 ?_ rfl (by kernel_rfl) (by kernel_rfl) (by kernel_rfl) (fun _ _ _ h => h) (Or.inl ⟨by kernel_rfl, ?_⟩) S0.out ?_
  rotate_left 1
  · intro u hu; go_simp; first | done | with_reducible rfl
  try simp only [Act.put, nA, nB, nC, nD, nE, nF]
  refine held_take 4 ?_ rfl (by kernel_rfl) (by kernel_rfl) (by kernel_rfl) (fun _ _ _ h => h) (Or.inl ⟨by kernel_rfl, ?_⟩) S0.out ?_
  rotate_left 1
  · intro u hu; go_simp; first | done | with_reducible rfl
  try simp only [Act.put, nA, nB, nC, nD, nE, nF]
  refine held_take 5 ?_ rfl (by kernel_rfl) (by kernel_rfl) (by kernel_rfl) (fun _ _ _ h => h) (Or.inl ⟨by kernel_rfl, ?_⟩) S0.out ?_
  rotate_left 1
  · intro u hu; go_simp; first | done | with_reducible rfl
  try simp only [Act.put, nA, nB, nC, nD, nE, nF]
  refine held_take 6 ?_ rfl (by kernel_rfl) (by kernel_rfl) (by kernel_rfl) (fun _ _ _ h => h) (Or.inl ⟨by kernel_rfl, ?_⟩) S0.out ?_
  rotate_left 1
  · intro u hu; go_simp; first | done | with_reducible rfl
  try simp only [Act.put, nA, nB, nC, nD, nE, nF]
  refine held_take 7 ?_ rfl (by kernel_rfl) (by kernel_rfl) (by kernel_rfl) (fun _ _ _ h => h) (Or.inl ⟨by kernel_rfl, ?_⟩) S0.out ?_
  rotate_left 1
  · intro u hu; go_simp; first | done | with_reducible rfl
  try simp only [Act.put, nA, nB, nC, nD, nE, nF]
  refine held_call 2 (by kernel_rfl) rfl (by kernel_rfl) (by first | rfl | go_simp) (hN ⟨bb, 0, none⟩ _ T0.out) ?_ (fun c u h => by cases h.1) (fun u h => by cases h.1)
  rintro v u ⟨he, t⟩
  cases he
  have T1 := Lib.hid (T0.out.trans t)
  have S1 := Lib.hid (cell_turn t S0.out)
  clear t
  refine ⟨S1.out, ?_⟩
  try simp only [Act.put, nA, nB, nC, nD, nE, nF]
  have hcat1 := HCAT1.out
  refine held_take 3 ?_ rfl (by kernel_rfl) (by kernel_rfl) (by kernel_rfl) (fun _ _ _ h => h) (Or.inl ⟨by kernel_rfl, ?_⟩) S1.out ?_
  rotate_left 1
  · intro u hu; go_simp; first | done | with_reducible rfl
  try simp only [Act.put, nA, nB, nC, nD, nE, nF]
  clear hcat1
  refine held_call 8 (by kernel_rfl) rfl (by kernel_rfl) (by first | rfl | go_simp) (hD _ T1.out) ?_ (fun c u h => by cases h.1) (fun u h => by cases h.1)
  rintro v u ⟨he, t⟩
  cases he
  have T2 := Lib.hid (T1.out.trans t)
  have S2 := Lib.hid (cell_turn t S1.out)
  clear t
  refine ⟨S2.out, ?_⟩
  try simp only [Act.put, nA, nB, nC, nD, nE, nF]
  have hcat2 := HCAT2.out
  refine held_take 9 ?_ rfl (by kernel_rfl) (by kernel_rfl) (by kernel_rfl) (fun _ _ _ h => h) (Or.inl ⟨by kernel_rfl, ?_⟩) S2.out ?_
  rotate_left 1
  · intro u hu; go_simp; first | done | with_reducible rfl
  try simp only [Act.put, nA, nB, nC, nD, nE, nF]
  clear hcat2
  refine held_take 10 ?_ rfl (by kernel_rfl) (by kernel_rfl) (by kernel_rfl) (fun _ _ _ h => h) (Or.inl ⟨by kernel_rfl, ?_⟩) S2.out ?_
  rotate_left 1
  · intro u hu; go_simp; first | done | with_reducible rfl
  try simp only [Act.put, nA, nB, nC, nD, nE, nF]
  refine wpAnyH_done (by kernel_rfl) ?_ _
  go_wp2_with fail
  go_ret
  exact ⟨rfl, T2.out⟩
theorem name2_any {l : List Nat} {v : Value} {w : World} (h : ByteSl w v l) : Calls Tryz.prog 9 #[v, .int .i64 2] w fun e w' => e = .returned (.string (BT (name2 l))) ∧ Turn Nn w w' := by
  have hfl : (name1 (fixL l).tail).length + (decDigits ((fixL l).headD 0 % 2)).length ≤ 1000 := by
    have h1 := name1_len (l := (fixL l).tail) (fun n hn => fixL_lt h.1 n (List.mem_of_mem_tail hn))
    have h2 := decDigits_len (n := (fixL l).headD 0 % 2) (by omega)
    omega
  have hsm : ∀ b, Gives w 9 #[.slice (some b) 0 0, .int .i64 1] (.string (BT (name1 []))) := fun b => gives_name1 (w := w) ⟨by simp, by simp, .inr (.inl ⟨_, _, rfl, rfl⟩)⟩
  have hd0 : Gives w 26 #[.int .u8 0] (.string (BT (decDigits 0))) := fun u _ => digits_any 0 (by omega) u
  have h' := h
  obtain ⟨h256, hn, h3⟩ := h
  rcases h3 with ⟨rfl, rfl⟩ | ⟨a, cap, rfl, rfl⟩ | ⟨b, o, cap, rfl, hcap, hc⟩
  · exact name2_nil hsm hd0 hfl
  · exact name2_emp hsm hd0 hfl
  · by_cases h0 : l = []
    · subst h0
      exact name2_emp hsm hd0 hfl
    · have hF : fixL l = l.take 20 := fixL_take h0
      have hpos : 0 < l.length := List.length_pos_iff.2 h0
      obtain ⟨m, hm⟩ : ∃ m, min l.length 20 = m := ⟨_, rfl⟩
      have hF2 : (fixL l).headD 0 = l[0]?.getD 0 := by
        rw [hF]
        cases l with
        | nil => exact absurd rfl h0
        | cons x r => rfl
      have hlt : l[0]?.getD 0 < 256 := by
        rw [List.getElem?_eq_getElem hpos]
        exact h256 _ (List.getElem_mem _)
      have htl : (fixL l).tail.length = m - 1 := by rw [hF, List.length_tail, List.length_take, Nat.min_comm, hm]
      have hget : ∀ i, i < m - 1 → (fixL l).tail[i]?.getD 0 = l[i + 1]?.getD 0 := by
        intro i hi
        rw [hF, List.getElem?_tail, List.getElem?_take_of_lt (by omega)]
      obtain ⟨aa, haa⟩ : ∃ aa, (if cap = 1 then some (⟨b, o, none⟩ : Addr) else some ⟨b, o + 1, none⟩) = some aa := by split <;> exact ⟨_, rfl⟩
      have hb : ByteSl w (.slice (some aa) (m - 1) (cap - 1)) (fixL l).tail := by
        by_cases h1 : m = 1
        · subst h1
          exact ⟨fun n hn => fixL_lt h256 n (List.mem_of_mem_tail hn), by omega, .inr (.inl ⟨aa, _, rfl, List.length_eq_zero_iff.1 htl⟩)⟩
        rw [if_neg (by omega)] at haa
        obtain rfl := Option.some.inj haa
        refine ⟨fun n hn => fixL_lt h256 n (List.mem_of_mem_tail hn), by omega, .inr (.inr ⟨b, o + 1, cap - 1, by rw [htl], by omega, fun i hi => ?_⟩)⟩
        rw [htl] at hi
        rw [hget i hi, Nat.add_assoc, Nat.add_comm 1 i]
        exact hc (i + 1) (by omega)
      have hc0 := hc 0 hpos
      rw [Nat.add_zero] at hc0
      have := name2_some (x := ((l[0]?.getD 0 : Nat) : Int)) (y := ((l[0]?.getD 0 % 2 : Nat) : Int)) (N := l.length) (m := m) (k := m - 1) hc0 (by omega) (by omega) (by omega) (by omega) (by omega) (by omega) (by omega) hcap haa (gives_name1 hb) (fun u _ => digits_any _ (by omega) u) (by rw [← hF2]; exact hfl)
      unfold name2
      rw [hF2]
      exact this
theorem gives_name2 {w : World} {v : Value} {l : List Nat} (h : ByteSl w v l) : Gives w 9 #[v, .int .i64 2] (.string (BT (name2 l))) := fun u t => name2_any (h.turn t)
end
section
set_option linter.unusedSimpArgs false
set_option linter.unusedVariables false
open Go.RowKit Go.Shelf Go.Lib

theorem event_any {x : ActD} {va vc vn : Value} {w : World} (h : ActOk x) (ha : ByteSl w va x.actor) (hc : ByteSl w vc x.chan) (hn : ByteSl w vn x.name) :
    Calls Tryz.prog 23 #[.agg #[.int .u8 (x.kind : Int), va, vc, vn, .int .u8 (x.side : Int), .int .u8 (x.tag : Int), .int .i64 x.word, .int .u8 (x.odd : Int)]] w fun e w' => e = .returned (.agg (evC (eventE x))) ∧ Turn Nn w w' := by
  have h1 := h.kind
  have h2 := h.side
  have h3 := h.tag
  have h4 := h.odd
  have l1 := name0_len h.actor
  have l2 := decDigits_len h.side
  exact event_walk (Kx := ((x.kind % 10 : Nat) : Int)) (Sl := ((x.kind / 10 : Nat) : Int)) (P := ((x.tag / 3 : Nat) : Int)) (T := ((x.tag % 3 : Nat) : Int)) (S2 := ((x.side % 2 : Nat) : Int)) (S8 := ((x.side % 8 : Nat) : Int)) (O := ((x.odd % 16 : Nat) : Int))
    (by omega) (by omega) (by omega) (by omega) (by omega) (by omega) (by omega) (by omega) (by omega) (by omega) (by omega) h.word (by omega) (by omega)
    (gives_name0 ha) (gives_name1 hc) (gives_name0 hn) (gives_name1 hn) (gives_name2 hn) (fun u _ => digits_any _ h2 u)
theorem gives_event {x : ActD} {va vc vn : Value} {w : World} (h : ActOk x) (ha : ByteSl w va x.actor) (hc : ByteSl w vc x.chan) (hn : ByteSl w vn x.name) :
    Gives w 23 #[.agg #[.int .u8 (x.kind : Int), va, vc, vn, .int .u8 (x.side : Int), .int .u8 (x.tag : Int), .int .i64 x.word, .int .u8 (x.odd : Int)]] (.agg (evC (eventE x))) := fun u t => event_any h (ha.turn t) (hc.turn t) (hn.turn t)
theorem gives_text {w : World} (hw : Laid w) {E : EventD} (hs : ESmall E) : Gives w 21 #[.agg (evC E)] (.tuple #[.string (BT (textC E).1), .int .i64 (textC E).2]) := fun u t => text_any hs (hw.turn t)
theorem gives_parse {w : World} (hw : Laid w) {s : Bs} (hs : s.length ≤ 4000000) : Gives w 24 #[.string (BT s)] (.tuple #[.agg (evC (parseC s).1), .int .i64 (parseC s).2]) := fun u t => parse_any hs (hw.turn t)
theorem textC_some {E : EventD} {s : Bs} (h : textD E = some s) : textC E = (s, 0) := by unfold textC; rw [h]
theorem textC_none {E : EventD} (h : textD E = none) : textC E = ([], 2) := by unfold textC; rw [h]
theorem parseC_some {s : Bs} {E : EventD} (h : parseD s = some E) : parseC s = (E, 0) := by unfold parseC; rw [h]
theorem parseC_none {s : Bs} (h : parseD s = none) : parseC s = (zeroE, 5) := by unfold parseC; rw [h]

theorem back_any {x : ActD} {va vc vn : Value} {w : World} {s : Bs} (hw : Laid w) (h : ActOk x) (ha : ByteSl w va x.actor) (hc : ByteSl w vc x.chan) (hn : ByteSl w vn x.name) (hs : s.length ≤ 9223372036854775807) :
    Calls Tryz.prog 6 #[.agg #[.int .u8 (x.kind : Int), va, vc, vn, .int .u8 (x.side : Int), .int .u8 (x.tag : Int), .int .i64 x.word, .int .u8 (x.odd : Int)], .string (BT s)] w fun e w' => e = .returned (.bool true) ∧ Turn Nn w w' := by
  have hsm := event_small h
  have hsz : (BT s).size = s.length := BT_size s
  have hl : (s.take 1000).length ≤ 1000 := by rw [List.length_take]; omega
  refine back_walk (gives_works hw) (gives_event h ha hc hn) (gives_text hw hsm) ?_ (S1 := BT (s.take 1000)) ?_ (by omega) (gives_parse hw (by omega)) ?_
  · cases ht : textD (eventE x) with
    | none =>
      right
      rw [textC_none ht]
      exact ⟨rfl, rfl⟩
    | some t =>
      left
      have hp := parseC_some (text_back hsm.ints.slot ht)
      have := gives_parse hw (s := t) (by have := text_le (event_sm h) hsm.ints ht; omega)
      rw [textC_some ht]
      rw [hp] at this
      exact ⟨rfl, this⟩
  · rw [hsz]
    have := BT_ext_take (l := s) (k := min s.length 1000) (by omega)
    rw [this]
    congr 1
    by_cases h1 : s.length ≤ 1000
    · rw [Nat.min_eq_left h1, List.take_length, List.take_of_length_le h1]
    · rw [Nat.min_eq_right (by omega)]
  · cases hp : parseD (s.take 1000) with
    | none =>
      left
      rw [parseC_none hp]
      exact ⟨rfl, rfl⟩
    | some E2 =>
      right
      have ht := textC_some (parse_back hp)
      have := gives_text hw (parse_small (by omega) hp)
      rw [ht] at this
      rw [parseC_some hp]
      exact ⟨rfl, this⟩
end
end Go.Proofs.YtpbjblbeepbklaaGreatDoor
