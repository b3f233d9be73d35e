/- The document's walks: the text of an event. Printed by gen_yh.py. -/
import Derived.Test.YtpbjblbeepbklaaGreatDoorLa
namespace Go.Proofs.YtpbjblbeepbklaaGreatDoor
set_option linter.unusedSimpArgs false
set_option linter.unusedVariables false
open Go.RowKit Go.Shelf Go.Lib

structure TDoor (w W : World) (n : Nat) (E T : EventD) : Prop where
  ev : EvAt W n E
  res : EvAt W (n + 1) zeroE
  told : EvAt W (n + 2) T
  low : Turn Nn w W
  gn : w.heap.size ≤ n
theorem TDoor.turn {w W W' : World} {n : Nat} {E T : EventD} (D : TDoor w W n E T) (t : Turn Nn W W') : TDoor w W' n E T := ⟨D.ev.turn t, D.res.turn t, D.told.turn t, D.low.trans t, D.gn⟩
theorem TDoor.set {w W : World} {n : Nat} {E T T' : EventD} (D : TDoor w W n E T) (i : Nat) (v : Value) (he : (evC T).setIfInBounds i v = evC T') : TDoor w (W.setCell ⟨n + 2, i, none⟩ v) n E T' :=
  ⟨blk_set D.ev (by omega), blk_set D.res (by omega), by have := heap_setCell_at D.told i v; rw [he] at this; exact this, D.low.setCell (p := ⟨n + 2, i, none⟩) (.inr (by have := D.gn; show w.heap.size ≤ n + 2; omega)) _, D.gn⟩
theorem TDoor.fin {w W : World} {n : Nat} {E T : EventD} (D : TDoor w W n E T) (F : EventD) : EvAt (set9 W (n + 1) F) (n + 1) F ∧ Turn Nn w (set9 W (n + 1) F) ∧ EvAt (set9 W (n + 1) F) n E ∧ EvAt (set9 W (n + 1) F) (n + 2) T :=
  ⟨set9_at D.res F, D.low.off (set9_turn (B := n + 1) F) (by have := D.gn; omega), set9_blk D.ev (by omega), set9_blk D.told (by omega)⟩
theorem res48 {W : World} {n : Nat} {F : EventD} {X : ByteArray} {b : Bool} {tmps : Array Value} (t2 : tmps[2]?.getD undef = .string X) (t3 : tmps[3]?.getD undef = .pointer (some ⟨n + 1, 0, none⟩)) (t4 : tmps[4]?.getD undef = .bool b) (h : EvAt W (n + 1) F) :
    (results Tryz.f48 tmps).run Tryz.prog W = .ok (.tuple #[.string X, .agg (evC F), .bool b]) W := by
  obtain ⟨y0, y1, y2, y3, y4, y5, y6, y7, y8⟩ := evCells h
  simp only [results, show Tryz.f48.results = #[.tmp 2, .cell 3 34, .tmp 4] from rfl]
  unfold evC
  go_simp
set_option maxRecDepth 100000 in
set_option maxHeartbeats 16000000 in
theorem rtext0 {w : World} {Sl P Sd Tg Wd : Int} {A C N : Bs} (hs : ESmall ⟨0, Sl, A, P, C, Sd, Tg, Wd, N⟩) : Calls Tryz.prog 48 #[.agg (evC ⟨0, Sl, A, P, C, Sd, Tg, Wd, N⟩)] w fun e w' => e = .returned (.tuple #[.string (BT (itoa Sl ++ tIdle)), .agg (evC (slotE Sl)), .bool true]) ∧ Turn Nn w w' := by
  obtain ⟨w1, e1⟩ : ∃ x, w.alloc (.cells (evC ⟨0, Sl, A, P, C, Sd, Tg, Wd, N⟩) 34) = x := ⟨_, rfl⟩
  obtain ⟨b1, t1⟩ := alloc1 e1
  obtain ⟨w2, e2⟩ : ∃ x, w1.alloc (.cells #[.int .i64 0, .int .i64 0, .string ⟨#[]⟩, .int .i64 0, .string ⟨#[]⟩, .int .i64 0, .int .i64 0, .int .i64 0, .string ⟨#[]⟩] 34) = x := ⟨_, rfl⟩
  obtain ⟨b2, t2⟩ := alloc1 e2
  obtain ⟨n, hn⟩ : ∃ n, w.heap.size = n := ⟨_, rfl⟩
  have hn1 : w1.heap.size = n + 1 := by rw [← e1, World.size_alloc, hn]
  rw [hn] at b1
  rw [hn1] at b2
  have hn2 : w2.heap.size = n + 2 := by rw [← e2, World.size_alloc, hn1]
  have ilS : (itoa Sl).length ≤ 21 := itoa_len hs.ints.slot
  have ilP : (itoa P).length ≤ 21 := itoa_len hs.ints.pc
  have ilW : (itoa Wd).length ≤ 21 := itoa_len hs.ints.word
  have lA : A.length ≤ 1100000 := hs.actor
  have lC : C.length ≤ 1100000 := hs.chan
  have lN : N.length ≤ 1100000 := hs.name
  have WS := Lib.hid (rwhole_any hs.ints.slot)
  have WP := Lib.hid (rwhole_any hs.ints.pc)
  have WW := Lib.hid (rwhole_any hs.ints.word)
  have hcat : ∀ W, (Op.stringOp .add (BT (itoa Sl)) ⟨#[32, 105, 100, 108, 101]⟩).run Tryz.prog W = .ok (.string (BT (itoa Sl ++ tIdle))) W := fun W => cat_run (b := tIdle) (by simp [tIdle, wIdle]; omega) W
  have HC := Lib.hid hcat
  have hgn : w.heap.size ≤ n := by omega
  have DD : Hid (EvAt w2.drew n ⟨0, Sl, A, P, C, Sd, Tg, Wd, N⟩ ∧ EvAt w2.drew (n + 1) zeroE ∧ Turn Nn w w2.drew) := Lib.hid ⟨(EvAt.turn (E := ⟨0, Sl, A, P, C, Sd, Tg, Wd, N⟩) b1 t2).turn (Turn.refl Nn w2).drew, EvAt.turn (E := zeroE) b2 (Turn.refl Nn w2).drew, (t1.trans t2).drew⟩
  have y0 : w2.cell? ⟨n, 0, none⟩ = some (.int .i64 0) := cell_blk (EvAt.turn (E := ⟨0, Sl, A, P, C, Sd, Tg, Wd, N⟩) b1 t2)
  unfold evC at e1
  conv => arg 3; unfold evC
  clear b1 b2 t1 t2 hs ilP ilW lA lC lN WP WW hcat
  go_enter Tryz.func48, Tryz.ntmps48
  go_upto_region 2 with (fail)
  refine held_begin (fun u => EvAt u n ⟨0, Sl, A, P, C, Sd, Tg, Wd, N⟩) (by kernel_rfl) ?_
  generalize World.drew w2 = ws at DD ⊢
  refine held_take 0 ?_ rfl (by kernel_rfl) (by kernel_rfl) (by kernel_rfl) (fun _ _ _ h => h) (Or.inl ⟨by kernel_rfl, ?_⟩) DD.out.1 ?_
  rotate_left 1
  · intro u hu; have y1 : u.cell? ⟨n, 1, none⟩ = some (.int .i64 Sl) := cell_blk hu; go_simp; first | done | with_reducible rfl
  try simp only [Act.put, nA, nB, nC, nD, nE, nF]
  refine held_take 1 ?_ rfl (by kernel_rfl) (by kernel_rfl) (by kernel_rfl) (fun _ _ _ h => h) (Or.inl ⟨by kernel_rfl, ?_⟩) DD.out.1 ?_
  rotate_left 1
  · intro u hu; have y1 : u.cell? ⟨n, 1, none⟩ = some (.int .i64 Sl) := cell_blk hu; go_simp; first | done | with_reducible rfl
  try simp only [Act.put, nA, nB, nC, nD, nE, nF]
  refine held_take 4 ?_ rfl (by kernel_rfl) (by kernel_rfl) (by kernel_rfl) (fun _ _ _ h => h) (Or.inl ⟨by kernel_rfl, ?_⟩) DD.out.1 ?_
  rotate_left 1
  · intro u hu; have y1 : u.cell? ⟨n, 1, none⟩ = some (.int .i64 Sl) := cell_blk hu; go_simp; first | done | with_reducible rfl
  try simp only [Act.put, nA, nB, nC, nD, nE, nF]
  refine held_take 5 ?_ rfl (by kernel_rfl) (by kernel_rfl) (by kernel_rfl) (fun _ _ _ h => h) (Or.inl ⟨by kernel_rfl, ?_⟩) DD.out.1 ?_
  rotate_left 1
  · intro u hu; have y1 : u.cell? ⟨n, 1, none⟩ = some (.int .i64 Sl) := cell_blk hu; go_simp; first | done | with_reducible rfl
  try simp only [Act.put, nA, nB, nC, nD, nE, nF]
  refine held_take 6 ?_ rfl (by kernel_rfl) (by kernel_rfl) (by kernel_rfl) (fun _ _ _ h => h) (Or.inl ⟨by kernel_rfl, ?_⟩) DD.out.1 ?_
  rotate_left 1
  · intro u hu; have y1 : u.cell? ⟨n, 1, none⟩ = some (.int .i64 Sl) := cell_blk hu; go_simp; first | done | with_reducible rfl
  try simp only [Act.put, nA, nB, nC, nD, nE, nF]
  refine held_call 2 (by kernel_rfl) rfl (by kernel_rfl) (by first | rfl | go_simp) (WS.out _) ?_ (fun c u h => by cases h.1) (fun u h => by cases h.1)
  rintro v9 wu ⟨he, t⟩
  cases he
  have D1 : Hid (EvAt wu n ⟨0, Sl, A, P, C, Sd, Tg, Wd, N⟩ ∧ EvAt wu (n + 1) zeroE ∧ Turn Nn w wu) := Lib.hid ⟨DD.out.1.turn t, DD.out.2.1.turn t, DD.out.2.2.trans t⟩
  clear t
  refine ⟨D1.out.1, ?_⟩
  try simp only [Act.put, nA, nB, nC, nD, nE, nF]
  have hcat := HC.out
  refine held_take 3 ?_ rfl (by kernel_rfl) (by kernel_rfl) (by kernel_rfl) (fun _ _ _ h => h) (Or.inl ⟨by kernel_rfl, ?_⟩) D1.out.1 ?_
  rotate_left 1
  · intro u hu; go_simp; first | done | with_reducible rfl
  try simp only [Act.put, nA, nB, nC, nD, nE, nF]
  clear hcat
  refine held_take 7 ?_ rfl (by kernel_rfl) (by kernel_rfl) (by kernel_rfl) (fun _ _ _ h => h) (Or.inl ⟨by kernel_rfl, ?_⟩) D1.out.1 ?_
  rotate_left 1
  · intro u hu; go_simp; first | done | with_reducible rfl
  try simp only [Act.put, nA, nB, nC, nD, nE, nF]
  have x0 : wu.cell? ⟨n + 1, 0, none⟩ = some (.int .i64 0) := cell_blk D1.out.2.1
  have x1 : wu.cell? ⟨n + 1, 1, none⟩ = some (.int .i64 0) := cell_blk D1.out.2.1
  have x2 : wu.cell? ⟨n + 1, 2, none⟩ = some (.string ⟨#[]⟩) := cell_blk D1.out.2.1
  have x3 : wu.cell? ⟨n + 1, 3, none⟩ = some (.int .i64 0) := cell_blk D1.out.2.1
  have x4 : wu.cell? ⟨n + 1, 4, none⟩ = some (.string ⟨#[]⟩) := cell_blk D1.out.2.1
  have x5 : wu.cell? ⟨n + 1, 5, none⟩ = some (.int .i64 0) := cell_blk D1.out.2.1
  have x6 : wu.cell? ⟨n + 1, 6, none⟩ = some (.int .i64 0) := cell_blk D1.out.2.1
  have x7 : wu.cell? ⟨n + 1, 7, none⟩ = some (.int .i64 0) := cell_blk D1.out.2.1
  have x8 : wu.cell? ⟨n + 1, 8, none⟩ = some (.string ⟨#[]⟩) := cell_blk D1.out.2.1
  have z0 : wu.frozen? ⟨n + 1, 0, none⟩ = false := frozen_blk D1.out.2.1
  have z1 : wu.frozen? ⟨n + 1, 1, none⟩ = false := frozen_blk D1.out.2.1
  have z2 : wu.frozen? ⟨n + 1, 2, none⟩ = false := frozen_blk D1.out.2.1
  have z3 : wu.frozen? ⟨n + 1, 3, none⟩ = false := frozen_blk D1.out.2.1
  have z4 : wu.frozen? ⟨n + 1, 4, none⟩ = false := frozen_blk D1.out.2.1
  have z5 : wu.frozen? ⟨n + 1, 5, none⟩ = false := frozen_blk D1.out.2.1
  have z6 : wu.frozen? ⟨n + 1, 6, none⟩ = false := frozen_blk D1.out.2.1
  have z7 : wu.frozen? ⟨n + 1, 7, none⟩ = false := frozen_blk D1.out.2.1
  have z8 : wu.frozen? ⟨n + 1, 8, none⟩ = false := frozen_blk D1.out.2.1
  obtain ⟨wr, er⟩ : ∃ x, set9 wu (n + 1) (slotE Sl) = x := ⟨_, rfl⟩
  have R1 : Hid (EvAt wr (n + 1) (slotE Sl) ∧ Turn Nn w wr ∧ EvAt wr n ⟨0, Sl, A, P, C, Sd, Tg, Wd, N⟩) := Lib.hid (by rw [← er]; exact ⟨set9_at D1.out.2.1 _, D1.out.2.2.off (set9_turn (B := n + 1) _) (by omega), set9_blk D1.out.1 (by omega)⟩)
  have fr : (((((((((wu.setCell ⟨n + 1, 0, none⟩ (.int .i64 (0))).setCell ⟨n + 1, 1, none⟩ (.int .i64 (Sl))).setCell ⟨n + 1, 2, none⟩ (.string ⟨#[]⟩)).setCell ⟨n + 1, 3, none⟩ (.int .i64 (0))).setCell ⟨n + 1, 4, none⟩ (.string ⟨#[]⟩)).setCell ⟨n + 1, 5, none⟩ (.int .i64 (0))).setCell ⟨n + 1, 6, none⟩ (.int .i64 (0))).setCell ⟨n + 1, 7, none⟩ (.int .i64 (0))).setCell ⟨n + 1, 8, none⟩ (.string ⟨#[]⟩)) = wr := er
  clear er
  refine held_one 8 (by kernel_rfl) rfl (by kernel_rfl) (fun K hK => ?_)
  go_simp
  refine hK _ _ R1.out.2.2 ?_
  clear hK K
  try simp only [Act.put, nA, nB, nC, nD, nE, nF]
  refine held_take 9 ?_ rfl (by kernel_rfl) (by kernel_rfl) (by kernel_rfl) (fun _ _ _ h => h) (Or.inl ⟨by kernel_rfl, ?_⟩) R1.out.2.2 ?_
  rotate_left 1
  · intro u hu; go_simp; first | done | with_reducible rfl
  try simp only [Act.put, nA, nB, nC, nD, nE, nF]
  refine wpAnyH_done (by kernel_rfl) ?_ _
  go_wp2_with fail
  exact bodyPost_ret (res48 rfl rfl rfl R1.out.1) rfl ⟨rfl, R1.out.2.1⟩
set_option maxRecDepth 100000 in
set_option maxHeartbeats 40000000 in
theorem rtext1 {K : Int} {w : World} {Sl P Sd Tg Wd : Int} {A C N : Bs} (hs : ESmall ⟨K, Sl, A, P, C, Sd, Tg, Wd, N⟩) (hK : K ≠ 0) {R1 : Bs} {R2 : EventD} {R3 : Bool} (hR : refT ⟨K, Sl, A, P, C, Sd, Tg, Wd, N⟩ = (R1, R2, R3)) : Calls Tryz.prog 48 #[.agg (evC ⟨K, Sl, A, P, C, Sd, Tg, Wd, N⟩)] w fun e w' => e = .returned (.tuple #[.string (BT R1), .agg (evC R2), .bool R3]) ∧ Turn Nn w w' := by
  obtain ⟨w1, e1⟩ : ∃ x, w.alloc (.cells (evC ⟨K, Sl, A, P, C, Sd, Tg, Wd, N⟩) 34) = x := ⟨_, rfl⟩
  obtain ⟨b1, t1⟩ := alloc1 e1
  obtain ⟨w2, e2⟩ : ∃ x, w1.alloc (.cells #[.int .i64 0, .int .i64 0, .string ⟨#[]⟩, .int .i64 0, .string ⟨#[]⟩, .int .i64 0, .int .i64 0, .int .i64 0, .string ⟨#[]⟩] 34) = x := ⟨_, rfl⟩
  obtain ⟨b2, t2⟩ := alloc1 e2
  obtain ⟨n, hn⟩ : ∃ n, w.heap.size = n := ⟨_, rfl⟩
  have hn1 : w1.heap.size = n + 1 := by rw [← e1, World.size_alloc, hn]
  rw [hn] at b1
  rw [hn1] at b2
  have hn2 : w2.heap.size = n + 2 := by rw [← e2, World.size_alloc, hn1]
  have ilS : (itoa Sl).length ≤ 21 := itoa_len hs.ints.slot
  have ilP : (itoa P).length ≤ 21 := itoa_len hs.ints.pc
  have ilW : (itoa Wd).length ≤ 21 := itoa_len hs.ints.word
  have lA : A.length ≤ 1100000 := hs.actor
  have lC : C.length ≤ 1100000 := hs.chan
  have lN : N.length ≤ 1100000 := hs.name
  have WS := Lib.hid (rwhole_any hs.ints.slot)
  have WP := Lib.hid (rwhole_any hs.ints.pc)
  have WW := Lib.hid (rwhole_any hs.ints.word)
  have HR := Lib.hid hR
  have HS := Lib.hid hs
  have hk0 : (K == 0) = false := by simp [hK]
  have GA := Lib.hid (refActor_any (l := A) (by omega))
  have GN := Lib.hid (refActor_any (l := N) (by omega))
  have GC := Lib.hid (refChan_any (l := C) (by omega))
  have GPC := Lib.hid (refParent_any (l := C) (by omega))
  have GPN := Lib.hid (refParent_any (l := N) (by omega))
  obtain ⟨w3, e3⟩ : ∃ x, w2.alloc (.cells #[.int .i64 0, .int .i64 0, .string ⟨#[]⟩, .int .i64 0, .string ⟨#[]⟩, .int .i64 0, .int .i64 0, .int .i64 0, .string ⟨#[]⟩] 34) = x := ⟨_, rfl⟩
  obtain ⟨b3, t3⟩ := alloc1 e3
  rw [hn2] at b3
  obtain ⟨w4, e4⟩ : ∃ x, set9 w3 (n + 2) ⟨K, Sl, A, P, [], 0, 0, 0, []⟩ = x := ⟨_, rfl⟩
  have D4 : Hid (TDoor w w4 n ⟨K, Sl, A, P, C, Sd, Tg, Wd, N⟩ ⟨K, Sl, A, P, [], 0, 0, 0, []⟩) := Lib.hid (by
    rw [← e4]
    exact ⟨set9_blk (EvAt.turn (E := ⟨K, Sl, A, P, C, Sd, Tg, Wd, N⟩) b1 (t2.trans t3)) (by omega), set9_blk (EvAt.turn (E := zeroE) b2 t3) (by omega), set9_at (E0 := zeroE) b3 _, ((t1.trans t2).trans t3).off (set9_turn (B := n + 2) _) (by omega), by omega⟩)
  have B3 : Hid (EvAt w3 (n + 2) zeroE ∧ EvAt w2 n ⟨K, Sl, A, P, C, Sd, Tg, Wd, N⟩) := Lib.hid ⟨b3, EvAt.turn (E := ⟨K, Sl, A, P, C, Sd, Tg, Wd, N⟩) b1 t2⟩
  have y0 : w2.cell? ⟨n, 0, none⟩ = some (.int .i64 (K)) := cell_blk B3.out.2
  have y1 : w2.cell? ⟨n, 1, none⟩ = some (.int .i64 (Sl)) := cell_blk B3.out.2
  have y2 : w2.cell? ⟨n, 2, none⟩ = some (.string (BT (A))) := cell_blk B3.out.2
  have y3 : w2.cell? ⟨n, 3, none⟩ = some (.int .i64 (P)) := cell_blk B3.out.2
  have x0 : w3.cell? ⟨n + 2, 0, none⟩ = some (.int .i64 0) := cell_blk B3.out.1
  have x1 : w3.cell? ⟨n + 2, 1, none⟩ = some (.int .i64 0) := cell_blk B3.out.1
  have x2 : w3.cell? ⟨n + 2, 2, none⟩ = some (.string ⟨#[]⟩) := cell_blk B3.out.1
  have x3 : w3.cell? ⟨n + 2, 3, none⟩ = some (.int .i64 0) := cell_blk B3.out.1
  have x4 : w3.cell? ⟨n + 2, 4, none⟩ = some (.string ⟨#[]⟩) := cell_blk B3.out.1
  have x5 : w3.cell? ⟨n + 2, 5, none⟩ = some (.int .i64 0) := cell_blk B3.out.1
  have x6 : w3.cell? ⟨n + 2, 6, none⟩ = some (.int .i64 0) := cell_blk B3.out.1
  have x7 : w3.cell? ⟨n + 2, 7, none⟩ = some (.int .i64 0) := cell_blk B3.out.1
  have x8 : w3.cell? ⟨n + 2, 8, none⟩ = some (.string ⟨#[]⟩) := cell_blk B3.out.1
  have z0 : w3.frozen? ⟨n + 2, 0, none⟩ = false := frozen_blk B3.out.1
  have z1 : w3.frozen? ⟨n + 2, 1, none⟩ = false := frozen_blk B3.out.1
  have z2 : w3.frozen? ⟨n + 2, 2, none⟩ = false := frozen_blk B3.out.1
  have z3 : w3.frozen? ⟨n + 2, 3, none⟩ = false := frozen_blk B3.out.1
  have z4 : w3.frozen? ⟨n + 2, 4, none⟩ = false := frozen_blk B3.out.1
  have z5 : w3.frozen? ⟨n + 2, 5, none⟩ = false := frozen_blk B3.out.1
  have z6 : w3.frozen? ⟨n + 2, 6, none⟩ = false := frozen_blk B3.out.1
  have z7 : w3.frozen? ⟨n + 2, 7, none⟩ = false := frozen_blk B3.out.1
  have z8 : w3.frozen? ⟨n + 2, 8, none⟩ = false := frozen_blk B3.out.1
  have f4 : (((((((((w3.setCell ⟨n + 2, 0, none⟩ (.int .i64 (K))).setCell ⟨n + 2, 1, none⟩ (.int .i64 (Sl))).setCell ⟨n + 2, 2, none⟩ (.string (BT (A)))).setCell ⟨n + 2, 3, none⟩ (.int .i64 (P))).setCell ⟨n + 2, 4, none⟩ (.string ⟨#[]⟩)).setCell ⟨n + 2, 5, none⟩ (.int .i64 (0))).setCell ⟨n + 2, 6, none⟩ (.int .i64 (0))).setCell ⟨n + 2, 7, none⟩ (.int .i64 (0))).setCell ⟨n + 2, 8, none⟩ (.string ⟨#[]⟩)) = w4 := e4
  have hcat1 : ∀ W, (Op.stringOp .add (BT (itoa Sl)) ⟨#[32]⟩).run Tryz.prog W = .ok (.string (BT (itoa Sl ++ [32]))) W := fun W => cat_run (b := [32]) (by simp; omega) W
  have hcat2 : ∀ W, (Op.stringOp .add (BT (itoa Sl ++ [32])) (BT A)).run Tryz.prog W = .ok (.string (BT (itoa Sl ++ [32] ++ A))) W := fun W => cat_run (by simp; omega) W
  have hcat3 : ∀ W, (Op.stringOp .add (BT (itoa Sl ++ [32] ++ A)) ⟨#[64]⟩).run Tryz.prog W = .ok (.string (BT (itoa Sl ++ [32] ++ A ++ [64]))) W := fun W => cat_run (b := [64]) (by simp; omega) W
  have hcat4 : ∀ W, (Op.stringOp .add (BT (itoa Sl ++ [32] ++ A ++ [64])) (BT (itoa P))).run Tryz.prog W = .ok (.string (BT (headT ⟨K, Sl, A, P, C, Sd, Tg, Wd, N⟩))) W := fun W => by
    rw [cat_run (by simp; omega) W]
    unfold headT
    simp
  generalize BT (itoa Sl ++ [32] ++ A ++ [64]) = J3 at hcat3 hcat4
  generalize BT (itoa Sl ++ [32] ++ A) = J2 at hcat2 hcat3
  generalize BT (itoa Sl ++ [32]) = J1 at hcat1 hcat2
  have lH : (headT ⟨K, Sl, A, P, C, Sd, Tg, Wd, N⟩).length ≤ 1200000 := by
    unfold headT
    simp
    omega
  have HC1 := Lib.hid hcat1
  have HC2 := Lib.hid hcat2
  have HC3 := Lib.hid hcat3
  have HC4 := Lib.hid hcat4
  have LH := Lib.hid lH
  have LL : Hid ((itoa Wd).length ≤ 21 ∧ C.length ≤ 1100000 ∧ N.length ≤ 1100000) := Lib.hid ⟨ilW, lC, lN⟩
  unfold evC at e1
  conv => arg 3; unfold evC
  clear b1 b2 b3 t1 t2 t3 hs ilS ilP ilW lA lC lN hcat1 hcat2 hcat3 hcat4 lH hR hK e4
  go_enter Tryz.func48, Tryz.ntmps48
  go_upto_region 4 with (fail)
  clear e1 e2 e3 f4 hn hn1 hn2
  clear y0 y1 y2 y3
  clear x0 x1 x2 x3 x4 x5 x6 x7 x8
  clear z0 z1 z2 z3 z4 z5 z6 z7 z8
  go_cut [6] from 31 to 43 (fun v wx => v = .bool (whoD ⟨K, Sl, A, P, C, Sd, Tg, Wd, N⟩) ∧ TDoor w wx n ⟨K, Sl, A, P, C, Sd, Tg, Wd, N⟩ ⟨K, Sl, A, P, [], 0, 0, 0, []⟩)
  case first =>
    have y1 : w4.cell? ⟨n, 1, none⟩ = some (.int .i64 (Sl)) := cell_blk D4.out.ev
    have y2 : w4.cell? ⟨n, 2, none⟩ = some (.string (BT (A))) := cell_blk D4.out.ev
    have y3 : w4.cell? ⟨n, 3, none⟩ = some (.int .i64 (P)) := cell_blk D4.out.ev
    obtain ⟨za, hza⟩ : ∃ z, actorL A = z := ⟨_, rfl⟩
    have hwho : whoD ⟨K, Sl, A, P, C, Sd, Tg, Wd, N⟩ = decide (actorL A = true ∧ 0 ≤ Sl ∧ 0 ≤ P) := rfl
    have HWH := Lib.hid hwho
    have HZA := Lib.hid hza
    rw [hza] at GA
    clear hwho hza
    cases za with
    | false =>
      go_wp2_with fail
      refine (GA.out _).mono ?_
      rintro e x ⟨rfl, t⟩
      have D5 := Lib.hid (D4.out.turn t)
      clear t y1 y2 y3
      go_wp2_with fail
      go_meet
      case rel => exact ⟨by rw [HWH.out, HZA.out]; rfl, D5.out⟩
    | true =>
      by_cases h1 : 0 ≤ Sl
      · by_cases h2 : 0 ≤ P
        · go_wp2_with fail
          refine (GA.out _).mono ?_
          rintro e x ⟨rfl, t⟩
          have D5 := Lib.hid (D4.out.turn t)
          clear t y1 y2 y3
          have y1 : x.cell? ⟨n, 1, none⟩ = some (.int .i64 (Sl)) := cell_blk D5.out.ev
          have y3 : x.cell? ⟨n, 3, none⟩ = some (.int .i64 (P)) := cell_blk D5.out.ev
          go_wp2_with fail
          go_meet
          case rel => exact ⟨congrArg Value.bool (by rw [HWH.out, HZA.out, Bool.eq_iff_iff]; first | (simp; done) | (simp; omega) | (simp [h1]; done) | (simp [h1]; omega)), D5.out⟩
        · go_wp2_with fail
          refine (GA.out _).mono ?_
          rintro e x ⟨rfl, t⟩
          have D5 := Lib.hid (D4.out.turn t)
          clear t y1 y2 y3
          have y1 : x.cell? ⟨n, 1, none⟩ = some (.int .i64 (Sl)) := cell_blk D5.out.ev
          have y3 : x.cell? ⟨n, 3, none⟩ = some (.int .i64 (P)) := cell_blk D5.out.ev
          go_wp2_with fail
          go_meet
          case rel => exact ⟨congrArg Value.bool (by rw [HWH.out, HZA.out, Bool.eq_iff_iff]; first | (simp; done) | (simp; omega) | (simp [h1]; done) | (simp [h1]; omega)), D5.out⟩
      · go_wp2_with fail
        refine (GA.out _).mono ?_
        rintro e x ⟨rfl, t⟩
        have D5 := Lib.hid (D4.out.turn t)
        clear t y1 y2 y3
        have y1 : x.cell? ⟨n, 1, none⟩ = some (.int .i64 (Sl)) := cell_blk D5.out.ev
        have y3 : x.cell? ⟨n, 3, none⟩ = some (.int .i64 (P)) := cell_blk D5.out.ev
        go_wp2_with fail
        go_meet
        case rel => exact ⟨congrArg Value.bool (by rw [HWH.out, HZA.out, Bool.eq_iff_iff]; first | (simp; done) | (simp; omega) | (simp [h1]; done) | (simp [h1]; omega)), D5.out⟩
  case rest =>
    obtain ⟨rfl, d⟩ := hcut
    have D := Lib.hid d
    clear d D4 B3
    go_upto_region 5 with (fail)
    refine held_begin (fun u => EvAt u n ⟨K, Sl, A, P, C, Sd, Tg, Wd, N⟩) (by kernel_rfl) ?_
    have DD := Lib.hid (D.out.turn (Turn.refl Nn wc).drew)
    generalize World.drew wc = ws at DD ⊢
    refine held_take 0 ?_ rfl (by kernel_rfl) (by kernel_rfl) (by kernel_rfl) (fun _ _ _ h => h) (Or.inl ⟨by kernel_rfl, ?_⟩) DD.out.ev ?_
    rotate_left 1
    · intro u hu; have y1 : u.cell? ⟨n, 1, none⟩ = some (.int .i64 Sl) := cell_blk hu; have y2 : u.cell? ⟨n, 2, none⟩ = some (.string (BT A)) := cell_blk hu; have y3 : u.cell? ⟨n, 3, none⟩ = some (.int .i64 P) := cell_blk hu; go_simp; first | done | with_reducible rfl
    try simp only [Act.put, nA, nB, nC, nD, nE, nF]
    refine held_take 1 ?_ rfl (by kernel_rfl) (by kernel_rfl) (by kernel_rfl) (fun _ _ _ h => h) (Or.inl ⟨by kernel_rfl, ?_⟩) DD.out.ev ?_
    rotate_left 1
    · intro u hu; have y1 : u.cell? ⟨n, 1, none⟩ = some (.int .i64 Sl) := cell_blk hu; have y2 : u.cell? ⟨n, 2, none⟩ = some (.string (BT A)) := cell_blk hu; have y3 : u.cell? ⟨n, 3, none⟩ = some (.int .i64 P) := cell_blk hu; go_simp; first | done | with_reducible rfl
    try simp only [Act.put, nA, nB, nC, nD, nE, nF]
    refine held_take 4 ?_ rfl (by kernel_rfl) (by kernel_rfl) (by kernel_rfl) (fun _ _ _ h => h) (Or.inl ⟨by kernel_rfl, ?_⟩) DD.out.ev ?_
    rotate_left 1
    · intro u hu; have y1 : u.cell? ⟨n, 1, none⟩ = some (.int .i64 Sl) := cell_blk hu; have y2 : u.cell? ⟨n, 2, none⟩ = some (.string (BT A)) := cell_blk hu; have y3 : u.cell? ⟨n, 3, none⟩ = some (.int .i64 P) := cell_blk hu; go_simp; first | done | with_reducible rfl
    try simp only [Act.put, nA, nB, nC, nD, nE, nF]
    refine held_take 5 ?_ rfl (by kernel_rfl) (by kernel_rfl) (by kernel_rfl) (fun _ _ _ h => h) (Or.inl ⟨by kernel_rfl, ?_⟩) DD.out.ev ?_
    rotate_left 1
    · intro u hu; have y1 : u.cell? ⟨n, 1, none⟩ = some (.int .i64 Sl) := cell_blk hu; have y2 : u.cell? ⟨n, 2, none⟩ = some (.string (BT A)) := cell_blk hu; have y3 : u.cell? ⟨n, 3, none⟩ = some (.int .i64 P) := cell_blk hu; go_simp; first | done | with_reducible rfl
    try simp only [Act.put, nA, nB, nC, nD, nE, nF]
    refine held_take 8 ?_ rfl (by kernel_rfl) (by kernel_rfl) (by kernel_rfl) (fun _ _ _ h => h) (Or.inl ⟨by kernel_rfl, ?_⟩) DD.out.ev ?_
    rotate_left 1
    · intro u hu; have y1 : u.cell? ⟨n, 1, none⟩ = some (.int .i64 Sl) := cell_blk hu; have y2 : u.cell? ⟨n, 2, none⟩ = some (.string (BT A)) := cell_blk hu; have y3 : u.cell? ⟨n, 3, none⟩ = some (.int .i64 P) := cell_blk hu; go_simp; first | done | with_reducible rfl
    try simp only [Act.put, nA, nB, nC, nD, nE, nF]
    refine held_take 9 ?_ rfl (by kernel_rfl) (by kernel_rfl) (by kernel_rfl) (fun _ _ _ h => h) (Or.inl ⟨by kernel_rfl, ?_⟩) DD.out.ev ?_
    rotate_left 1
    · intro u hu; have y1 : u.cell? ⟨n, 1, none⟩ = some (.int .i64 Sl) := cell_blk hu; have y2 : u.cell? ⟨n, 2, none⟩ = some (.string (BT A)) := cell_blk hu; have y3 : u.cell? ⟨n, 3, none⟩ = some (.int .i64 P) := cell_blk hu; go_simp; first | done | with_reducible rfl
    try simp only [Act.put, nA, nB, nC, nD, nE, nF]
    refine held_call 2 (by kernel_rfl) rfl (by kernel_rfl) (by first | rfl | go_simp) (WS.out _) ?_ (fun c u h => by cases h.1) (fun u h => by cases h.1)
    rintro v9 w5 ⟨he, t⟩
    cases he
    have D5 := Lib.hid (DD.out.turn t)
    clear t
    refine ⟨D5.out.ev, ?_⟩
    try simp only [Act.put, nA, nB, nC, nD, nE, nF]
    have hcat1 := HC1.out
    have hcat2 := HC2.out
    have hcat3 := HC3.out
    refine held_take 3 ?_ rfl (by kernel_rfl) (by kernel_rfl) (by kernel_rfl) (fun _ _ _ h => h) (Or.inl ⟨by kernel_rfl, ?_⟩) D5.out.ev ?_
    rotate_left 1
    · intro u hu; go_simp; first | done | with_reducible rfl
    try simp only [Act.put, nA, nB, nC, nD, nE, nF]
    refine held_take 6 ?_ rfl (by kernel_rfl) (by kernel_rfl) (by kernel_rfl) (fun _ _ _ h => h) (Or.inl ⟨by kernel_rfl, ?_⟩) D5.out.ev ?_
    rotate_left 1
    · intro u hu; go_simp; first | done | with_reducible rfl
    try simp only [Act.put, nA, nB, nC, nD, nE, nF]
    refine held_take 7 ?_ rfl (by kernel_rfl) (by kernel_rfl) (by kernel_rfl) (fun _ _ _ h => h) (Or.inl ⟨by kernel_rfl, ?_⟩) D5.out.ev ?_
    rotate_left 1
    · intro u hu; go_simp; first | done | with_reducible rfl
    try simp only [Act.put, nA, nB, nC, nD, nE, nF]
    clear hcat1 hcat2 hcat3
    refine held_call 10 (by kernel_rfl) rfl (by kernel_rfl) (by first | rfl | go_simp) (WP.out _) ?_ (fun c u h => by cases h.1) (fun u h => by cases h.1)
    rintro v9 w6 ⟨he, t⟩
    cases he
    have D6 := Lib.hid (D5.out.turn t)
    clear t
    refine ⟨D6.out.ev, ?_⟩
    try simp only [Act.put, nA, nB, nC, nD, nE, nF]
    have hcat4 := HC4.out
    refine held_take 11 ?_ rfl (by kernel_rfl) (by kernel_rfl) (by kernel_rfl) (fun _ _ _ h => h) (Or.inl ⟨by kernel_rfl, ?_⟩) D6.out.ev ?_
    rotate_left 1
    · intro u hu; go_simp; first | done | with_reducible rfl
    try simp only [Act.put, nA, nB, nC, nD, nE, nF]
    clear hcat4
    refine held_take 12 ?_ rfl (by kernel_rfl) (by kernel_rfl) (by kernel_rfl) (fun _ _ _ h => h) (Or.inl ⟨by kernel_rfl, ?_⟩) D6.out.ev ?_
    rotate_left 1
    · intro u hu; go_simp; first | done | with_reducible rfl
    try simp only [Act.put, nA, nB, nC, nD, nE, nF]
    refine wpAnyH_done (by kernel_rfl) ?_ _
    clear D DD D5 WS WP GA HC1 HC2 HC3 HC4
    obtain ⟨Hd, hHd⟩ : ∃ x, headT ⟨K, Sl, A, P, C, Sd, Tg, Wd, N⟩ = x := ⟨_, rfl⟩
    obtain ⟨Wh, hWh⟩ : ∃ x, whoD ⟨K, Sl, A, P, C, Sd, Tg, Wd, N⟩ = x := ⟨_, rfl⟩
    have HHd := Lib.hid hHd
    have HWh := Lib.hid hWh
    rw [hHd] at LH ⊢
    rw [hWh]
    clear hHd hWh
    have y0 : w6.cell? ⟨n, 0, none⟩ = some (.int .i64 K) := cell_blk D6.out.ev
    by_cases k1 : K = 1
    · subst k1
      have hR : ((Hd ++ 32 :: wSilent, ⟨1, Sl, A, P, [], 0, 0, 0, []⟩, Wh) : Bs × EventD × Bool) = (R1, R2, R3) := by
        rw [← HHd.out, ← HWh.out]
        exact HR.out
      simp only [Prod.mk.injEq] at hR
      obtain ⟨rfl, rfl, rfl⟩ := hR
      have lH := LH.out
      have hcat : ∀ W, (Op.stringOp .add (BT Hd) ⟨#[32, 115, 105, 108, 101, 110, 116]⟩).run Tryz.prog W = .ok (.string (BT (Hd ++ 32 :: wSilent))) W := fun W => cat_run (b := 32 :: wSilent) (by simp [wSilent]; omega) W
      clear lH
      go_upto_region 8 with (fail)
      refine held_begin (fun u => EvAt u n ⟨1, Sl, A, P, C, Sd, Tg, Wd, N⟩ ∧ EvAt u (n + 2) ⟨1, Sl, A, P, [], 0, 0, 0, []⟩) (by kernel_rfl) ?_
      have D7 := Lib.hid (D6.out.turn (Turn.refl Nn w6).drew)
      generalize World.drew w6 = w7 at D7 ⊢
      refine held_take 0 ?_ rfl (by kernel_rfl) (by kernel_rfl) (by kernel_rfl) (fun _ _ _ h => h) (Or.inl ⟨by kernel_rfl, ?_⟩) ⟨D7.out.ev, D7.out.told⟩ ?_
      rotate_left 1
      · intro u hu; go_simp; first | done | with_reducible rfl
      try simp only [Act.put, nA, nB, nC, nD, nE, nF]
      refine held_take 1 ?_ rfl (by kernel_rfl) (by kernel_rfl) (by kernel_rfl) (fun _ _ _ h => h) (Or.inl ⟨by kernel_rfl, ?_⟩) ⟨D7.out.ev, D7.out.told⟩ ?_
      rotate_left 1
      · intro u hu; go_simp; first | done | with_reducible rfl
      try simp only [Act.put, nA, nB, nC, nD, nE, nF]
      clear hcat
      refine held_take 2 ?_ rfl (by kernel_rfl) (by kernel_rfl) (by kernel_rfl) (fun _ _ _ h => h) (Or.inl ⟨by kernel_rfl, ?_⟩) ⟨D7.out.ev, D7.out.told⟩ ?_
      rotate_left 1
      · intro u hu; obtain ⟨hu1, hu2⟩ := hu; have x0 : u.cell? ⟨n + 2, 0, none⟩ = some (.int .i64 (1)) := cell_blk hu2; have x1 : u.cell? ⟨n + 2, 1, none⟩ = some (.int .i64 (Sl)) := cell_blk hu2; have x2 : u.cell? ⟨n + 2, 2, none⟩ = some (.string (BT (A))) := cell_blk hu2; have x3 : u.cell? ⟨n + 2, 3, none⟩ = some (.int .i64 (P)) := cell_blk hu2; have x4 : u.cell? ⟨n + 2, 4, none⟩ = some (.string ⟨#[]⟩) := cell_blk hu2; have x5 : u.cell? ⟨n + 2, 5, none⟩ = some (.int .i64 (0)) := cell_blk hu2; have x6 : u.cell? ⟨n + 2, 6, none⟩ = some (.int .i64 (0)) := cell_blk hu2; have x7 : u.cell? ⟨n + 2, 7, none⟩ = some (.int .i64 (0)) := cell_blk hu2; have x8 : u.cell? ⟨n + 2, 8, none⟩ = some (.string ⟨#[]⟩) := cell_blk hu2; go_simp; first | done | with_reducible rfl
      try simp only [Act.put, nA, nB, nC, nD, nE, nF]
      refine held_take 3 ?_ rfl (by kernel_rfl) (by kernel_rfl) (by kernel_rfl) (fun _ _ _ h => h) (Or.inl ⟨by kernel_rfl, ?_⟩) ⟨D7.out.ev, D7.out.told⟩ ?_
      rotate_left 1
      · intro u hu; go_simp; first | done | with_reducible rfl
      try simp only [Act.put, nA, nB, nC, nD, nE, nF]
      refine held_take 4 ?_ rfl (by kernel_rfl) (by kernel_rfl) (by kernel_rfl) (fun _ _ _ h => h) (Or.inl ⟨by kernel_rfl, ?_⟩) ⟨D7.out.ev, D7.out.told⟩ ?_
      rotate_left 1
      · intro u hu; go_simp; first | done | with_reducible rfl
      try simp only [Act.put, nA, nB, nC, nD, nE, nF]
      have x0 : w7.cell? ⟨n + 1, 0, none⟩ = some (.int .i64 0) := cell_blk D7.out.res
      have x1 : w7.cell? ⟨n + 1, 1, none⟩ = some (.int .i64 0) := cell_blk D7.out.res
      have x2 : w7.cell? ⟨n + 1, 2, none⟩ = some (.string ⟨#[]⟩) := cell_blk D7.out.res
      have x3 : w7.cell? ⟨n + 1, 3, none⟩ = some (.int .i64 0) := cell_blk D7.out.res
      have x4 : w7.cell? ⟨n + 1, 4, none⟩ = some (.string ⟨#[]⟩) := cell_blk D7.out.res
      have x5 : w7.cell? ⟨n + 1, 5, none⟩ = some (.int .i64 0) := cell_blk D7.out.res
      have x6 : w7.cell? ⟨n + 1, 6, none⟩ = some (.int .i64 0) := cell_blk D7.out.res
      have x7 : w7.cell? ⟨n + 1, 7, none⟩ = some (.int .i64 0) := cell_blk D7.out.res
      have x8 : w7.cell? ⟨n + 1, 8, none⟩ = some (.string ⟨#[]⟩) := cell_blk D7.out.res
      have z0 : w7.frozen? ⟨n + 1, 0, none⟩ = false := frozen_blk D7.out.res
      have z1 : w7.frozen? ⟨n + 1, 1, none⟩ = false := frozen_blk D7.out.res
      have z2 : w7.frozen? ⟨n + 1, 2, none⟩ = false := frozen_blk D7.out.res
      have z3 : w7.frozen? ⟨n + 1, 3, none⟩ = false := frozen_blk D7.out.res
      have z4 : w7.frozen? ⟨n + 1, 4, none⟩ = false := frozen_blk D7.out.res
      have z5 : w7.frozen? ⟨n + 1, 5, none⟩ = false := frozen_blk D7.out.res
      have z6 : w7.frozen? ⟨n + 1, 6, none⟩ = false := frozen_blk D7.out.res
      have z7 : w7.frozen? ⟨n + 1, 7, none⟩ = false := frozen_blk D7.out.res
      have z8 : w7.frozen? ⟨n + 1, 8, none⟩ = false := frozen_blk D7.out.res
      obtain ⟨wr, ewr⟩ : ∃ x, set9 w7 (n + 1) ⟨1, Sl, A, P, [], 0, 0, 0, []⟩ = x := ⟨_, rfl⟩
      have Fwr := Lib.hid (by have h := D7.out.fin ⟨1, Sl, A, P, [], 0, 0, 0, []⟩; rw [ewr] at h; exact h)
      have fwr : (((((((((w7.setCell ⟨n + 1, 0, none⟩ (.int .i64 (1))).setCell ⟨n + 1, 1, none⟩ (.int .i64 (Sl))).setCell ⟨n + 1, 2, none⟩ (.string (BT (A)))).setCell ⟨n + 1, 3, none⟩ (.int .i64 (P))).setCell ⟨n + 1, 4, none⟩ (.string ⟨#[]⟩)).setCell ⟨n + 1, 5, none⟩ (.int .i64 (0))).setCell ⟨n + 1, 6, none⟩ (.int .i64 (0))).setCell ⟨n + 1, 7, none⟩ (.int .i64 (0))).setCell ⟨n + 1, 8, none⟩ (.string ⟨#[]⟩)) = wr := ewr
      clear ewr
      refine held_one 5 (by kernel_rfl) rfl (by kernel_rfl) (fun K hK => ?_)
      go_simp
      refine hK _ _ ⟨Fwr.out.2.2.1, Fwr.out.2.2.2⟩ ?_
      clear hK K
      try simp only [Act.put, nA, nB, nC, nD, nE, nF]
      refine held_take 6 ?_ rfl (by kernel_rfl) (by kernel_rfl) (by kernel_rfl) (fun _ _ _ h => h) (Or.inl ⟨by kernel_rfl, ?_⟩) ⟨Fwr.out.2.2.1, Fwr.out.2.2.2⟩ ?_
      rotate_left 1
      · intro u hu; go_simp; first | done | with_reducible rfl
      try simp only [Act.put, nA, nB, nC, nD, nE, nF]
      refine wpAnyH_done (by kernel_rfl) ?_ _
      go_wp2_with fail
      exact bodyPost_ret (res48 rfl rfl rfl Fwr.out.1) rfl ⟨rfl, Fwr.out.2.1⟩
    by_cases k8 : K = 8
    · subst k8
      have hR : ((Hd ++ 32 :: wHalted, ⟨8, Sl, A, P, [], 0, 0, 0, []⟩, Wh) : Bs × EventD × Bool) = (R1, R2, R3) := by
        rw [← HHd.out, ← HWh.out]
        exact HR.out
      simp only [Prod.mk.injEq] at hR
      obtain ⟨rfl, rfl, rfl⟩ := hR
      have lH := LH.out
      have hcat : ∀ W, (Op.stringOp .add (BT Hd) ⟨#[32, 104, 97, 108, 116, 101, 100]⟩).run Tryz.prog W = .ok (.string (BT (Hd ++ 32 :: wHalted))) W := fun W => cat_run (b := 32 :: wHalted) (by simp [wHalted]; omega) W
      clear lH
      go_upto_region 10 with (fail)
      refine held_begin (fun u => EvAt u n ⟨8, Sl, A, P, C, Sd, Tg, Wd, N⟩ ∧ EvAt u (n + 2) ⟨8, Sl, A, P, [], 0, 0, 0, []⟩) (by kernel_rfl) ?_
      have D7 := Lib.hid (D6.out.turn (Turn.refl Nn w6).drew)
      generalize World.drew w6 = w7 at D7 ⊢
      refine held_take 0 ?_ rfl (by kernel_rfl) (by kernel_rfl) (by kernel_rfl) (fun _ _ _ h => h) (Or.inl ⟨by kernel_rfl, ?_⟩) ⟨D7.out.ev, D7.out.told⟩ ?_
      rotate_left 1
      · intro u hu; go_simp; first | done | with_reducible rfl
      try simp only [Act.put, nA, nB, nC, nD, nE, nF]
      refine held_take 1 ?_ rfl (by kernel_rfl) (by kernel_rfl) (by kernel_rfl) (fun _ _ _ h => h) (Or.inl ⟨by kernel_rfl, ?_⟩) ⟨D7.out.ev, D7.out.told⟩ ?_
      rotate_left 1
      · intro u hu; go_simp; first | done | with_reducible rfl
      try simp only [Act.put, nA, nB, nC, nD, nE, nF]
      clear hcat
      refine held_take 2 ?_ rfl (by kernel_rfl) (by kernel_rfl) (by kernel_rfl) (fun _ _ _ h => h) (Or.inl ⟨by kernel_rfl, ?_⟩) ⟨D7.out.ev, D7.out.told⟩ ?_
      rotate_left 1
      · intro u hu; obtain ⟨hu1, hu2⟩ := hu; have x0 : u.cell? ⟨n + 2, 0, none⟩ = some (.int .i64 (8)) := cell_blk hu2; have x1 : u.cell? ⟨n + 2, 1, none⟩ = some (.int .i64 (Sl)) := cell_blk hu2; have x2 : u.cell? ⟨n + 2, 2, none⟩ = some (.string (BT (A))) := cell_blk hu2; have x3 : u.cell? ⟨n + 2, 3, none⟩ = some (.int .i64 (P)) := cell_blk hu2; have x4 : u.cell? ⟨n + 2, 4, none⟩ = some (.string ⟨#[]⟩) := cell_blk hu2; have x5 : u.cell? ⟨n + 2, 5, none⟩ = some (.int .i64 (0)) := cell_blk hu2; have x6 : u.cell? ⟨n + 2, 6, none⟩ = some (.int .i64 (0)) := cell_blk hu2; have x7 : u.cell? ⟨n + 2, 7, none⟩ = some (.int .i64 (0)) := cell_blk hu2; have x8 : u.cell? ⟨n + 2, 8, none⟩ = some (.string ⟨#[]⟩) := cell_blk hu2; go_simp; first | done | with_reducible rfl
      try simp only [Act.put, nA, nB, nC, nD, nE, nF]
      refine held_take 3 ?_ rfl (by kernel_rfl) (by kernel_rfl) (by kernel_rfl) (fun _ _ _ h => h) (Or.inl ⟨by kernel_rfl, ?_⟩) ⟨D7.out.ev, D7.out.told⟩ ?_
      rotate_left 1
      · intro u hu; go_simp; first | done | with_reducible rfl
      try simp only [Act.put, nA, nB, nC, nD, nE, nF]
      refine held_take 4 ?_ rfl (by kernel_rfl) (by kernel_rfl) (by kernel_rfl) (fun _ _ _ h => h) (Or.inl ⟨by kernel_rfl, ?_⟩) ⟨D7.out.ev, D7.out.told⟩ ?_
      rotate_left 1
      · intro u hu; go_simp; first | done | with_reducible rfl
      try simp only [Act.put, nA, nB, nC, nD, nE, nF]
      have x0 : w7.cell? ⟨n + 1, 0, none⟩ = some (.int .i64 0) := cell_blk D7.out.res
      have x1 : w7.cell? ⟨n + 1, 1, none⟩ = some (.int .i64 0) := cell_blk D7.out.res
      have x2 : w7.cell? ⟨n + 1, 2, none⟩ = some (.string ⟨#[]⟩) := cell_blk D7.out.res
      have x3 : w7.cell? ⟨n + 1, 3, none⟩ = some (.int .i64 0) := cell_blk D7.out.res
      have x4 : w7.cell? ⟨n + 1, 4, none⟩ = some (.string ⟨#[]⟩) := cell_blk D7.out.res
      have x5 : w7.cell? ⟨n + 1, 5, none⟩ = some (.int .i64 0) := cell_blk D7.out.res
      have x6 : w7.cell? ⟨n + 1, 6, none⟩ = some (.int .i64 0) := cell_blk D7.out.res
      have x7 : w7.cell? ⟨n + 1, 7, none⟩ = some (.int .i64 0) := cell_blk D7.out.res
      have x8 : w7.cell? ⟨n + 1, 8, none⟩ = some (.string ⟨#[]⟩) := cell_blk D7.out.res
      have z0 : w7.frozen? ⟨n + 1, 0, none⟩ = false := frozen_blk D7.out.res
      have z1 : w7.frozen? ⟨n + 1, 1, none⟩ = false := frozen_blk D7.out.res
      have z2 : w7.frozen? ⟨n + 1, 2, none⟩ = false := frozen_blk D7.out.res
      have z3 : w7.frozen? ⟨n + 1, 3, none⟩ = false := frozen_blk D7.out.res
      have z4 : w7.frozen? ⟨n + 1, 4, none⟩ = false := frozen_blk D7.out.res
      have z5 : w7.frozen? ⟨n + 1, 5, none⟩ = false := frozen_blk D7.out.res
      have z6 : w7.frozen? ⟨n + 1, 6, none⟩ = false := frozen_blk D7.out.res
      have z7 : w7.frozen? ⟨n + 1, 7, none⟩ = false := frozen_blk D7.out.res
      have z8 : w7.frozen? ⟨n + 1, 8, none⟩ = false := frozen_blk D7.out.res
      obtain ⟨wr, ewr⟩ : ∃ x, set9 w7 (n + 1) ⟨8, Sl, A, P, [], 0, 0, 0, []⟩ = x := ⟨_, rfl⟩
      have Fwr := Lib.hid (by have h := D7.out.fin ⟨8, Sl, A, P, [], 0, 0, 0, []⟩; rw [ewr] at h; exact h)
      have fwr : (((((((((w7.setCell ⟨n + 1, 0, none⟩ (.int .i64 (8))).setCell ⟨n + 1, 1, none⟩ (.int .i64 (Sl))).setCell ⟨n + 1, 2, none⟩ (.string (BT (A)))).setCell ⟨n + 1, 3, none⟩ (.int .i64 (P))).setCell ⟨n + 1, 4, none⟩ (.string ⟨#[]⟩)).setCell ⟨n + 1, 5, none⟩ (.int .i64 (0))).setCell ⟨n + 1, 6, none⟩ (.int .i64 (0))).setCell ⟨n + 1, 7, none⟩ (.int .i64 (0))).setCell ⟨n + 1, 8, none⟩ (.string ⟨#[]⟩)) = wr := ewr
      clear ewr
      refine held_one 5 (by kernel_rfl) rfl (by kernel_rfl) (fun K hK => ?_)
      go_simp
      refine hK _ _ ⟨Fwr.out.2.2.1, Fwr.out.2.2.2⟩ ?_
      clear hK K
      try simp only [Act.put, nA, nB, nC, nD, nE, nF]
      refine held_take 6 ?_ rfl (by kernel_rfl) (by kernel_rfl) (by kernel_rfl) (fun _ _ _ h => h) (Or.inl ⟨by kernel_rfl, ?_⟩) ⟨Fwr.out.2.2.1, Fwr.out.2.2.2⟩ ?_
      rotate_left 1
      · intro u hu; go_simp; first | done | with_reducible rfl
      try simp only [Act.put, nA, nB, nC, nD, nE, nF]
      refine wpAnyH_done (by kernel_rfl) ?_ _
      go_wp2_with fail
      exact bodyPost_ret (res48 rfl rfl rfl Fwr.out.1) rfl ⟨rfl, Fwr.out.2.1⟩
    by_cases k9 : K = 9
    · subst k9
      have hR : ((Hd ++ 32 :: wTrap, ⟨9, Sl, A, P, [], 0, 0, 0, []⟩, Wh) : Bs × EventD × Bool) = (R1, R2, R3) := by
        rw [← HHd.out, ← HWh.out]
        exact HR.out
      simp only [Prod.mk.injEq] at hR
      obtain ⟨rfl, rfl, rfl⟩ := hR
      have lH := LH.out
      have hcat : ∀ W, (Op.stringOp .add (BT Hd) ⟨#[32, 116, 114, 97, 112]⟩).run Tryz.prog W = .ok (.string (BT (Hd ++ 32 :: wTrap))) W := fun W => cat_run (b := 32 :: wTrap) (by simp [wTrap]; omega) W
      clear lH
      go_upto_region 12 with (fail)
      refine held_begin (fun u => EvAt u n ⟨9, Sl, A, P, C, Sd, Tg, Wd, N⟩ ∧ EvAt u (n + 2) ⟨9, Sl, A, P, [], 0, 0, 0, []⟩) (by kernel_rfl) ?_
      have D7 := Lib.hid (D6.out.turn (Turn.refl Nn w6).drew)
      generalize World.drew w6 = w7 at D7 ⊢
      refine held_take 0 ?_ rfl (by kernel_rfl) (by kernel_rfl) (by kernel_rfl) (fun _ _ _ h => h) (Or.inl ⟨by kernel_rfl, ?_⟩) ⟨D7.out.ev, D7.out.told⟩ ?_
      rotate_left 1
      · intro u hu; go_simp; first | done | with_reducible rfl
      try simp only [Act.put, nA, nB, nC, nD, nE, nF]
      refine held_take 1 ?_ rfl (by kernel_rfl) (by kernel_rfl) (by kernel_rfl) (fun _ _ _ h => h) (Or.inl ⟨by kernel_rfl, ?_⟩) ⟨D7.out.ev, D7.out.told⟩ ?_
      rotate_left 1
      · intro u hu; go_simp; first | done | with_reducible rfl
      try simp only [Act.put, nA, nB, nC, nD, nE, nF]
      clear hcat
      refine held_take 2 ?_ rfl (by kernel_rfl) (by kernel_rfl) (by kernel_rfl) (fun _ _ _ h => h) (Or.inl ⟨by kernel_rfl, ?_⟩) ⟨D7.out.ev, D7.out.told⟩ ?_
      rotate_left 1
      · intro u hu; obtain ⟨hu1, hu2⟩ := hu; have x0 : u.cell? ⟨n + 2, 0, none⟩ = some (.int .i64 (9)) := cell_blk hu2; have x1 : u.cell? ⟨n + 2, 1, none⟩ = some (.int .i64 (Sl)) := cell_blk hu2; have x2 : u.cell? ⟨n + 2, 2, none⟩ = some (.string (BT (A))) := cell_blk hu2; have x3 : u.cell? ⟨n + 2, 3, none⟩ = some (.int .i64 (P)) := cell_blk hu2; have x4 : u.cell? ⟨n + 2, 4, none⟩ = some (.string ⟨#[]⟩) := cell_blk hu2; have x5 : u.cell? ⟨n + 2, 5, none⟩ = some (.int .i64 (0)) := cell_blk hu2; have x6 : u.cell? ⟨n + 2, 6, none⟩ = some (.int .i64 (0)) := cell_blk hu2; have x7 : u.cell? ⟨n + 2, 7, none⟩ = some (.int .i64 (0)) := cell_blk hu2; have x8 : u.cell? ⟨n + 2, 8, none⟩ = some (.string ⟨#[]⟩) := cell_blk hu2; go_simp; first | done | with_reducible rfl
      try simp only [Act.put, nA, nB, nC, nD, nE, nF]
      refine held_take 3 ?_ rfl (by kernel_rfl) (by kernel_rfl) (by kernel_rfl) (fun _ _ _ h => h) (Or.inl ⟨by kernel_rfl, ?_⟩) ⟨D7.out.ev, D7.out.told⟩ ?_
      rotate_left 1
      · intro u hu; go_simp; first | done | with_reducible rfl
      try simp only [Act.put, nA, nB, nC, nD, nE, nF]
      refine held_take 4 ?_ rfl (by kernel_rfl) (by kernel_rfl) (by kernel_rfl) (fun _ _ _ h => h) (Or.inl ⟨by kernel_rfl, ?_⟩) ⟨D7.out.ev, D7.out.told⟩ ?_
      rotate_left 1
      · intro u hu; go_simp; first | done | with_reducible rfl
      try simp only [Act.put, nA, nB, nC, nD, nE, nF]
      have x0 : w7.cell? ⟨n + 1, 0, none⟩ = some (.int .i64 0) := cell_blk D7.out.res
      have x1 : w7.cell? ⟨n + 1, 1, none⟩ = some (.int .i64 0) := cell_blk D7.out.res
      have x2 : w7.cell? ⟨n + 1, 2, none⟩ = some (.string ⟨#[]⟩) := cell_blk D7.out.res
      have x3 : w7.cell? ⟨n + 1, 3, none⟩ = some (.int .i64 0) := cell_blk D7.out.res
      have x4 : w7.cell? ⟨n + 1, 4, none⟩ = some (.string ⟨#[]⟩) := cell_blk D7.out.res
      have x5 : w7.cell? ⟨n + 1, 5, none⟩ = some (.int .i64 0) := cell_blk D7.out.res
      have x6 : w7.cell? ⟨n + 1, 6, none⟩ = some (.int .i64 0) := cell_blk D7.out.res
      have x7 : w7.cell? ⟨n + 1, 7, none⟩ = some (.int .i64 0) := cell_blk D7.out.res
      have x8 : w7.cell? ⟨n + 1, 8, none⟩ = some (.string ⟨#[]⟩) := cell_blk D7.out.res
      have z0 : w7.frozen? ⟨n + 1, 0, none⟩ = false := frozen_blk D7.out.res
      have z1 : w7.frozen? ⟨n + 1, 1, none⟩ = false := frozen_blk D7.out.res
      have z2 : w7.frozen? ⟨n + 1, 2, none⟩ = false := frozen_blk D7.out.res
      have z3 : w7.frozen? ⟨n + 1, 3, none⟩ = false := frozen_blk D7.out.res
      have z4 : w7.frozen? ⟨n + 1, 4, none⟩ = false := frozen_blk D7.out.res
      have z5 : w7.frozen? ⟨n + 1, 5, none⟩ = false := frozen_blk D7.out.res
      have z6 : w7.frozen? ⟨n + 1, 6, none⟩ = false := frozen_blk D7.out.res
      have z7 : w7.frozen? ⟨n + 1, 7, none⟩ = false := frozen_blk D7.out.res
      have z8 : w7.frozen? ⟨n + 1, 8, none⟩ = false := frozen_blk D7.out.res
      obtain ⟨wr, ewr⟩ : ∃ x, set9 w7 (n + 1) ⟨9, Sl, A, P, [], 0, 0, 0, []⟩ = x := ⟨_, rfl⟩
      have Fwr := Lib.hid (by have h := D7.out.fin ⟨9, Sl, A, P, [], 0, 0, 0, []⟩; rw [ewr] at h; exact h)
      have fwr : (((((((((w7.setCell ⟨n + 1, 0, none⟩ (.int .i64 (9))).setCell ⟨n + 1, 1, none⟩ (.int .i64 (Sl))).setCell ⟨n + 1, 2, none⟩ (.string (BT (A)))).setCell ⟨n + 1, 3, none⟩ (.int .i64 (P))).setCell ⟨n + 1, 4, none⟩ (.string ⟨#[]⟩)).setCell ⟨n + 1, 5, none⟩ (.int .i64 (0))).setCell ⟨n + 1, 6, none⟩ (.int .i64 (0))).setCell ⟨n + 1, 7, none⟩ (.int .i64 (0))).setCell ⟨n + 1, 8, none⟩ (.string ⟨#[]⟩)) = wr := ewr
      clear ewr
      refine held_one 5 (by kernel_rfl) rfl (by kernel_rfl) (fun K hK => ?_)
      go_simp
      refine hK _ _ ⟨Fwr.out.2.2.1, Fwr.out.2.2.2⟩ ?_
      clear hK K
      try simp only [Act.put, nA, nB, nC, nD, nE, nF]
      refine held_take 6 ?_ rfl (by kernel_rfl) (by kernel_rfl) (by kernel_rfl) (fun _ _ _ h => h) (Or.inl ⟨by kernel_rfl, ?_⟩) ⟨Fwr.out.2.2.1, Fwr.out.2.2.2⟩ ?_
      rotate_left 1
      · intro u hu; go_simp; first | done | with_reducible rfl
      try simp only [Act.put, nA, nB, nC, nD, nE, nF]
      refine wpAnyH_done (by kernel_rfl) ?_ _
      go_wp2_with fail
      exact bodyPost_ret (res48 rfl rfl rfl Fwr.out.1) rfl ⟨rfl, Fwr.out.2.1⟩
    by_cases k4 : K = 4
    · subst k4
      have hR : ((Hd ++ 32 :: (wOut ++ 32 :: itoa Wd), ⟨4, Sl, A, P, [], 0, 0, Wd, []⟩, Wh) : Bs × EventD × Bool) = (R1, R2, R3) := by
        rw [← HHd.out, ← HWh.out]
        exact HR.out
      simp only [Prod.mk.injEq] at hR
      obtain ⟨rfl, rfl, rfl⟩ := hR
      have lH := LH.out
      have lW := LL.out.1
      have hcat1 : ∀ W, (Op.stringOp .add (BT Hd) ⟨#[32, 111, 117, 116, 32]⟩).run Tryz.prog W = .ok (.string (BT (Hd ++ [32, 111, 117, 116, 32]))) W := fun W => cat_run (b := [32, 111, 117, 116, 32]) (by simp; omega) W
      have hcat2 : ∀ W, (Op.stringOp .add (BT (Hd ++ [32, 111, 117, 116, 32])) (BT (itoa Wd))).run Tryz.prog W = .ok (.string (BT (Hd ++ 32 :: (wOut ++ 32 :: itoa Wd)))) W := fun W => by
        rw [cat_run (by simp; omega) W]
        simp [wOut]
      have H2 := Lib.hid hcat2
      clear lH lW hcat2
      have y7 : w6.cell? ⟨n, 7, none⟩ = some (.int .i64 Wd) := cell_blk D6.out.ev
      have x7 : w6.cell? ⟨n + 2, 7, none⟩ = some (.int .i64 (0)) := cell_blk D6.out.told
      have z7 : w6.frozen? ⟨n + 2, 7, none⟩ = false := frozen_blk D6.out.told
      obtain ⟨w7, ew7⟩ : ∃ x, w6.setCell ⟨n + 2, 7, none⟩ (.int .i64 Wd) = x := ⟨_, rfl⟩
      have D7 : Hid (TDoor w w7 n ⟨4, Sl, A, P, C, Sd, Tg, Wd, N⟩ ⟨4, Sl, A, P, [], 0, 0, Wd, []⟩) := Lib.hid (by rw [← ew7]; exact D6.out.set 7 (.int .i64 Wd) rfl)
      go_upto_region 15 with (fail)
      clear ew7 y7 x7 z7
      refine held_begin (fun u => EvAt u n ⟨4, Sl, A, P, C, Sd, Tg, Wd, N⟩ ∧ EvAt u (n + 2) ⟨4, Sl, A, P, [], 0, 0, Wd, []⟩) (by kernel_rfl) ?_
      have D8 := Lib.hid (D7.out.turn (Turn.refl Nn w7).drew)
      generalize World.drew w7 = w8 at D8 ⊢
      refine held_take 0 ?_ rfl (by kernel_rfl) (by kernel_rfl) (by kernel_rfl) (fun _ _ _ h => h) (Or.inl ⟨by kernel_rfl, ?_⟩) ⟨D8.out.ev, D8.out.told⟩ ?_
      rotate_left 1
      · intro u hu; go_simp; first | done | with_reducible rfl
      try simp only [Act.put, nA, nB, nC, nD, nE, nF]
      refine held_take 1 ?_ rfl (by kernel_rfl) (by kernel_rfl) (by kernel_rfl) (fun _ _ _ h => h) (Or.inl ⟨by kernel_rfl, ?_⟩) ⟨D8.out.ev, D8.out.told⟩ ?_
      rotate_left 1
      · intro u hu; go_simp; first | done | with_reducible rfl
      try simp only [Act.put, nA, nB, nC, nD, nE, nF]
      clear hcat1
      refine held_take 2 ?_ rfl (by kernel_rfl) (by kernel_rfl) (by kernel_rfl) (fun _ _ _ h => h) (Or.inl ⟨by kernel_rfl, ?_⟩) ⟨D8.out.ev, D8.out.told⟩ ?_
      rotate_left 1
      · intro u hu; go_simp; first | done | with_reducible rfl
      try simp only [Act.put, nA, nB, nC, nD, nE, nF]
      refine held_take 3 ?_ rfl (by kernel_rfl) (by kernel_rfl) (by kernel_rfl) (fun _ _ _ h => h) (Or.inl ⟨by kernel_rfl, ?_⟩) ⟨D8.out.ev, D8.out.told⟩ ?_
      rotate_left 1
      · intro u hu; obtain ⟨hu1, hu2⟩ := hu; have y7 : u.cell? ⟨n, 7, none⟩ = some (.int .i64 (Wd)) := cell_blk hu1; go_simp; first | done | with_reducible rfl
      try simp only [Act.put, nA, nB, nC, nD, nE, nF]
      refine held_take 6 ?_ rfl (by kernel_rfl) (by kernel_rfl) (by kernel_rfl) (fun _ _ _ h => h) (Or.inl ⟨by kernel_rfl, ?_⟩) ⟨D8.out.ev, D8.out.told⟩ ?_
      rotate_left 1
      · intro u hu; obtain ⟨hu1, hu2⟩ := hu; have x0 : u.cell? ⟨n + 2, 0, none⟩ = some (.int .i64 (4)) := cell_blk hu2; have x1 : u.cell? ⟨n + 2, 1, none⟩ = some (.int .i64 (Sl)) := cell_blk hu2; have x2 : u.cell? ⟨n + 2, 2, none⟩ = some (.string (BT (A))) := cell_blk hu2; have x3 : u.cell? ⟨n + 2, 3, none⟩ = some (.int .i64 (P)) := cell_blk hu2; have x4 : u.cell? ⟨n + 2, 4, none⟩ = some (.string ⟨#[]⟩) := cell_blk hu2; have x5 : u.cell? ⟨n + 2, 5, none⟩ = some (.int .i64 (0)) := cell_blk hu2; have x6 : u.cell? ⟨n + 2, 6, none⟩ = some (.int .i64 (0)) := cell_blk hu2; have x7 : u.cell? ⟨n + 2, 7, none⟩ = some (.int .i64 (Wd)) := cell_blk hu2; have x8 : u.cell? ⟨n + 2, 8, none⟩ = some (.string ⟨#[]⟩) := cell_blk hu2; go_simp; first | done | with_reducible rfl
      try simp only [Act.put, nA, nB, nC, nD, nE, nF]
      refine held_take 7 ?_ rfl (by kernel_rfl) (by kernel_rfl) (by kernel_rfl) (fun _ _ _ h => h) (Or.inl ⟨by kernel_rfl, ?_⟩) ⟨D8.out.ev, D8.out.told⟩ ?_
      rotate_left 1
      · intro u hu; go_simp; first | done | with_reducible rfl
      try simp only [Act.put, nA, nB, nC, nD, nE, nF]
      refine held_call 4 (by kernel_rfl) rfl (by kernel_rfl) (by first | rfl | go_simp) (WW.out _) ?_ (fun c u h => by cases h.1) (fun u h => by cases h.1)
      rintro v9 w9 ⟨he, t⟩
      cases he
      have D9 := Lib.hid (D8.out.turn t)
      clear t
      refine ⟨⟨D9.out.ev, D9.out.told⟩, ?_⟩
      try simp only [Act.put, nA, nB, nC, nD, nE, nF]
      have hcat2 := H2.out
      refine held_take 5 ?_ rfl (by kernel_rfl) (by kernel_rfl) (by kernel_rfl) (fun _ _ _ h => h) (Or.inl ⟨by kernel_rfl, ?_⟩) ⟨D9.out.ev, D9.out.told⟩ ?_
      rotate_left 1
      · intro u hu; go_simp; first | done | with_reducible rfl
      try simp only [Act.put, nA, nB, nC, nD, nE, nF]
      clear hcat2
      refine held_take 8 ?_ rfl (by kernel_rfl) (by kernel_rfl) (by kernel_rfl) (fun _ _ _ h => h) (Or.inl ⟨by kernel_rfl, ?_⟩) ⟨D9.out.ev, D9.out.told⟩ ?_
      rotate_left 1
      · intro u hu; go_simp; first | done | with_reducible rfl
      try simp only [Act.put, nA, nB, nC, nD, nE, nF]
      have x0 : w9.cell? ⟨n + 1, 0, none⟩ = some (.int .i64 0) := cell_blk D9.out.res
      have x1 : w9.cell? ⟨n + 1, 1, none⟩ = some (.int .i64 0) := cell_blk D9.out.res
      have x2 : w9.cell? ⟨n + 1, 2, none⟩ = some (.string ⟨#[]⟩) := cell_blk D9.out.res
      have x3 : w9.cell? ⟨n + 1, 3, none⟩ = some (.int .i64 0) := cell_blk D9.out.res
      have x4 : w9.cell? ⟨n + 1, 4, none⟩ = some (.string ⟨#[]⟩) := cell_blk D9.out.res
      have x5 : w9.cell? ⟨n + 1, 5, none⟩ = some (.int .i64 0) := cell_blk D9.out.res
      have x6 : w9.cell? ⟨n + 1, 6, none⟩ = some (.int .i64 0) := cell_blk D9.out.res
      have x7 : w9.cell? ⟨n + 1, 7, none⟩ = some (.int .i64 0) := cell_blk D9.out.res
      have x8 : w9.cell? ⟨n + 1, 8, none⟩ = some (.string ⟨#[]⟩) := cell_blk D9.out.res
      have z0 : w9.frozen? ⟨n + 1, 0, none⟩ = false := frozen_blk D9.out.res
      have z1 : w9.frozen? ⟨n + 1, 1, none⟩ = false := frozen_blk D9.out.res
      have z2 : w9.frozen? ⟨n + 1, 2, none⟩ = false := frozen_blk D9.out.res
      have z3 : w9.frozen? ⟨n + 1, 3, none⟩ = false := frozen_blk D9.out.res
      have z4 : w9.frozen? ⟨n + 1, 4, none⟩ = false := frozen_blk D9.out.res
      have z5 : w9.frozen? ⟨n + 1, 5, none⟩ = false := frozen_blk D9.out.res
      have z6 : w9.frozen? ⟨n + 1, 6, none⟩ = false := frozen_blk D9.out.res
      have z7 : w9.frozen? ⟨n + 1, 7, none⟩ = false := frozen_blk D9.out.res
      have z8 : w9.frozen? ⟨n + 1, 8, none⟩ = false := frozen_blk D9.out.res
      obtain ⟨wr, ewr⟩ : ∃ x, set9 w9 (n + 1) ⟨4, Sl, A, P, [], 0, 0, Wd, []⟩ = x := ⟨_, rfl⟩
      have Fwr := Lib.hid (by have h := D9.out.fin ⟨4, Sl, A, P, [], 0, 0, Wd, []⟩; rw [ewr] at h; exact h)
      have fwr : (((((((((w9.setCell ⟨n + 1, 0, none⟩ (.int .i64 (4))).setCell ⟨n + 1, 1, none⟩ (.int .i64 (Sl))).setCell ⟨n + 1, 2, none⟩ (.string (BT (A)))).setCell ⟨n + 1, 3, none⟩ (.int .i64 (P))).setCell ⟨n + 1, 4, none⟩ (.string ⟨#[]⟩)).setCell ⟨n + 1, 5, none⟩ (.int .i64 (0))).setCell ⟨n + 1, 6, none⟩ (.int .i64 (0))).setCell ⟨n + 1, 7, none⟩ (.int .i64 (Wd))).setCell ⟨n + 1, 8, none⟩ (.string ⟨#[]⟩)) = wr := ewr
      clear ewr
      refine held_one 9 (by kernel_rfl) rfl (by kernel_rfl) (fun K hK => ?_)
      go_simp
      refine hK _ _ ⟨Fwr.out.2.2.1, Fwr.out.2.2.2⟩ ?_
      clear hK K
      try simp only [Act.put, nA, nB, nC, nD, nE, nF]
      refine held_take 10 ?_ rfl (by kernel_rfl) (by kernel_rfl) (by kernel_rfl) (fun _ _ _ h => h) (Or.inl ⟨by kernel_rfl, ?_⟩) ⟨Fwr.out.2.2.1, Fwr.out.2.2.2⟩ ?_
      rotate_left 1
      · intro u hu; go_simp; first | done | with_reducible rfl
      try simp only [Act.put, nA, nB, nC, nD, nE, nF]
      refine wpAnyH_done (by kernel_rfl) ?_ _
      go_wp2_with fail
      exact bodyPost_ret (res48 rfl rfl rfl Fwr.out.1) rfl ⟨rfl, Fwr.out.2.1⟩
    by_cases k5 : K = 5
    · subst k5
      obtain ⟨zc, hzc⟩ : ∃ z, chanL C = z := ⟨_, rfl⟩
      obtain ⟨PC, hPC⟩ : ∃ z, parentL C = z := ⟨_, rfl⟩
      have HZC := Lib.hid hzc
      have HPC := Lib.hid hPC
      rw [hzc] at GC
      rw [hPC] at GPC
      clear hzc hPC
      have hq := beq_dec2 PC A
      have HQ := Lib.hid hq
      clear hq
      have hR : ((Hd ++ 32 :: (wMade ++ 32 :: C), ⟨5, Sl, A, P, C, 0, 0, 0, []⟩, (Wh && (zc && decide (PC = A)))) : Bs × EventD × Bool) = (R1, R2, R3) := by
        have hb : decide (chanL C = true ∧ parentL C = A) = (chanL C && decide (parentL C = A)) := by cases chanL C <;> simp
        rw [← HHd.out, ← HWh.out, ← HZC.out, ← HPC.out, ← hb]
        exact HR.out
      simp only [Prod.mk.injEq] at hR
      obtain ⟨rfl, rfl, rfl⟩ := hR
      have lH := LH.out
      have lV := LL.out.2
      have hcat1 : ∀ W, (Op.stringOp .add (BT Hd) ⟨#[32, 109, 97, 100, 101, 32]⟩).run Tryz.prog W = .ok (.string (BT (Hd ++ [32, 109, 97, 100, 101, 32]))) W := fun W => cat_run (b := [32, 109, 97, 100, 101, 32]) (by simp; omega) W
      have hcat2 : ∀ W, (Op.stringOp .add (BT (Hd ++ [32, 109, 97, 100, 101, 32])) (BT C)).run Tryz.prog W = .ok (.string (BT (Hd ++ 32 :: (wMade ++ 32 :: C)))) W := fun W => by
        rw [cat_run (by simp; omega) W]
        simp [wMade]
      clear lH lV
      have y4 : w6.cell? ⟨n, 4, none⟩ = some (.string (BT C)) := cell_blk D6.out.ev
      have x4 : w6.cell? ⟨n + 2, 4, none⟩ = some (.string ⟨#[]⟩) := cell_blk D6.out.told
      have z4 : w6.frozen? ⟨n + 2, 4, none⟩ = false := frozen_blk D6.out.told
      obtain ⟨w7, ew7⟩ : ∃ x, w6.setCell ⟨n + 2, 4, none⟩ (.string (BT C)) = x := ⟨_, rfl⟩
      have D7 : Hid (TDoor w w7 n ⟨5, Sl, A, P, C, Sd, Tg, Wd, N⟩ ⟨5, Sl, A, P, C, 0, 0, 0, []⟩) := Lib.hid (by rw [← ew7]; exact D6.out.set 4 (.string (BT C)) rfl)
      go_upto_region 18 with (fail)
      clear ew7 y4 x4 z4
      refine held_begin (fun u => EvAt u n ⟨5, Sl, A, P, C, Sd, Tg, Wd, N⟩ ∧ EvAt u (n + 2) ⟨5, Sl, A, P, C, 0, 0, 0, []⟩) (by kernel_rfl) ?_
      have D8 := Lib.hid (D7.out.turn (Turn.refl Nn w7).drew)
      generalize World.drew w7 = w8 at D8 ⊢
      refine held_take 0 ?_ rfl (by kernel_rfl) (by kernel_rfl) (by kernel_rfl) (fun _ _ _ h => h) (Or.inl ⟨by kernel_rfl, ?_⟩) ⟨D8.out.ev, D8.out.told⟩ ?_
      rotate_left 1
      · intro u hu; go_simp; first | done | with_reducible rfl
      try simp only [Act.put, nA, nB, nC, nD, nE, nF]
      refine held_take 1 ?_ rfl (by kernel_rfl) (by kernel_rfl) (by kernel_rfl) (fun _ _ _ h => h) (Or.inl ⟨by kernel_rfl, ?_⟩) ⟨D8.out.ev, D8.out.told⟩ ?_
      rotate_left 1
      · intro u hu; go_simp; first | done | with_reducible rfl
      try simp only [Act.put, nA, nB, nC, nD, nE, nF]
      refine held_take 2 ?_ rfl (by kernel_rfl) (by kernel_rfl) (by kernel_rfl) (fun _ _ _ h => h) (Or.inl ⟨by kernel_rfl, ?_⟩) ⟨D8.out.ev, D8.out.told⟩ ?_
      rotate_left 1
      · intro u hu; go_simp; first | done | with_reducible rfl
      try simp only [Act.put, nA, nB, nC, nD, nE, nF]
      refine held_take 3 ?_ rfl (by kernel_rfl) (by kernel_rfl) (by kernel_rfl) (fun _ _ _ h => h) (Or.inl ⟨by kernel_rfl, ?_⟩) ⟨D8.out.ev, D8.out.told⟩ ?_
      rotate_left 1
      · intro u hu; obtain ⟨hu1, hu2⟩ := hu; have y4 : u.cell? ⟨n, 4, none⟩ = some (.string (BT (C))) := cell_blk hu1; have y2 : u.cell? ⟨n, 2, none⟩ = some (.string (BT (A))) := cell_blk hu1; go_simp; first | done | with_reducible rfl
      try simp only [Act.put, nA, nB, nC, nD, nE, nF]
      refine held_take 4 ?_ rfl (by kernel_rfl) (by kernel_rfl) (by kernel_rfl) (fun _ _ _ h => h) (Or.inl ⟨by kernel_rfl, ?_⟩) ⟨D8.out.ev, D8.out.told⟩ ?_
      rotate_left 1
      · intro u hu; go_simp; first | done | with_reducible rfl
      try simp only [Act.put, nA, nB, nC, nD, nE, nF]
      clear hcat1 hcat2
      refine held_take 5 ?_ rfl (by kernel_rfl) (by kernel_rfl) (by kernel_rfl) (fun _ _ _ h => h) (Or.inl ⟨by kernel_rfl, ?_⟩) ⟨D8.out.ev, D8.out.told⟩ ?_
      rotate_left 1
      · intro u hu; obtain ⟨hu1, hu2⟩ := hu; have x0 : u.cell? ⟨n + 2, 0, none⟩ = some (.int .i64 (5)) := cell_blk hu2; have x1 : u.cell? ⟨n + 2, 1, none⟩ = some (.int .i64 (Sl)) := cell_blk hu2; have x2 : u.cell? ⟨n + 2, 2, none⟩ = some (.string (BT (A))) := cell_blk hu2; have x3 : u.cell? ⟨n + 2, 3, none⟩ = some (.int .i64 (P)) := cell_blk hu2; have x4 : u.cell? ⟨n + 2, 4, none⟩ = some (.string (BT (C))) := cell_blk hu2; have x5 : u.cell? ⟨n + 2, 5, none⟩ = some (.int .i64 (0)) := cell_blk hu2; have x6 : u.cell? ⟨n + 2, 6, none⟩ = some (.int .i64 (0)) := cell_blk hu2; have x7 : u.cell? ⟨n + 2, 7, none⟩ = some (.int .i64 (0)) := cell_blk hu2; have x8 : u.cell? ⟨n + 2, 8, none⟩ = some (.string ⟨#[]⟩) := cell_blk hu2; go_simp; first | done | with_reducible rfl
      try simp only [Act.put, nA, nB, nC, nD, nE, nF]
      cases Wh with
      | false =>
        refine held_take 6 ?_ rfl (by kernel_rfl) (by kernel_rfl) (by kernel_rfl) (fun _ _ _ h => h) (Or.inl ⟨by kernel_rfl, ?_⟩) ⟨D8.out.ev, D8.out.told⟩ ?_
        rotate_left 1
        · intro u hu; go_simp; first | done | with_reducible rfl
        try simp only [Act.put, nA, nB, nC, nD, nE, nF]
        refine held_take 7 ?_ rfl (by kernel_rfl) (by kernel_rfl) (by kernel_rfl) (fun _ _ _ h => h) (Or.inl ⟨by kernel_rfl, ?_⟩) ⟨D8.out.ev, D8.out.told⟩ ?_
        rotate_left 1
        · intro u hu; go_simp; first | done | with_reducible rfl
        try simp only [Act.put, nA, nB, nC, nD, nE, nF]
        refine held_take 8 undef rfl (by kernel_rfl) (by kernel_rfl) (by kernel_rfl) (fun _ _ _ h => h) (Or.inr ⟨by kernel_rfl, rfl⟩) ⟨D8.out.ev, D8.out.told⟩ ?_
        try simp only [Act.put, nA, nB, nC, nD, nE, nF]
        refine held_take 9 undef rfl (by kernel_rfl) (by kernel_rfl) (by kernel_rfl) (fun _ _ _ h => h) (Or.inr ⟨by kernel_rfl, rfl⟩) ⟨D8.out.ev, D8.out.told⟩ ?_
        try simp only [Act.put, nA, nB, nC, nD, nE, nF]
        refine held_take 10 undef rfl (by kernel_rfl) (by kernel_rfl) (by kernel_rfl) (fun _ _ _ h => h) (Or.inr ⟨by kernel_rfl, rfl⟩) ⟨D8.out.ev, D8.out.told⟩ ?_
        try simp only [Act.put, nA, nB, nC, nD, nE, nF]
        refine held_take 11 ?_ rfl (by kernel_rfl) (by kernel_rfl) (by kernel_rfl) (fun _ _ _ h => h) (Or.inl ⟨by kernel_rfl, ?_⟩) ⟨D8.out.ev, D8.out.told⟩ ?_
        rotate_left 1
        · intro u hu; go_simp; first | done | with_reducible rfl
        try simp only [Act.put, nA, nB, nC, nD, nE, nF]
        refine held_take 12 ?_ rfl (by kernel_rfl) (by kernel_rfl) (by kernel_rfl) (fun _ _ _ h => h) (Or.inl ⟨by kernel_rfl, ?_⟩) ⟨D8.out.ev, D8.out.told⟩ ?_
        rotate_left 1
        · intro u hu; go_simp; first | done | with_reducible rfl
        try simp only [Act.put, nA, nB, nC, nD, nE, nF]
        refine held_take 13 undef rfl (by kernel_rfl) (by kernel_rfl) (by kernel_rfl) (fun _ _ _ h => h) (Or.inr ⟨by kernel_rfl, rfl⟩) ⟨D8.out.ev, D8.out.told⟩ ?_
        try simp only [Act.put, nA, nB, nC, nD, nE, nF]
        refine held_take 14 undef rfl (by kernel_rfl) (by kernel_rfl) (by kernel_rfl) (fun _ _ _ h => h) (Or.inr ⟨by kernel_rfl, rfl⟩) ⟨D8.out.ev, D8.out.told⟩ ?_
        try simp only [Act.put, nA, nB, nC, nD, nE, nF]
        refine held_take 15 undef rfl (by kernel_rfl) (by kernel_rfl) (by kernel_rfl) (fun _ _ _ h => h) (Or.inr ⟨by kernel_rfl, rfl⟩) ⟨D8.out.ev, D8.out.told⟩ ?_
        try simp only [Act.put, nA, nB, nC, nD, nE, nF]
        refine held_take 16 undef rfl (by kernel_rfl) (by kernel_rfl) (by kernel_rfl) (fun _ _ _ h => h) (Or.inr ⟨by kernel_rfl, rfl⟩) ⟨D8.out.ev, D8.out.told⟩ ?_
        try simp only [Act.put, nA, nB, nC, nD, nE, nF]
        refine held_take 17 undef rfl (by kernel_rfl) (by kernel_rfl) (by kernel_rfl) (fun _ _ _ h => h) (Or.inr ⟨by kernel_rfl, rfl⟩) ⟨D8.out.ev, D8.out.told⟩ ?_
        try simp only [Act.put, nA, nB, nC, nD, nE, nF]
        refine held_take 18 undef rfl (by kernel_rfl) (by kernel_rfl) (by kernel_rfl) (fun _ _ _ h => h) (Or.inr ⟨by kernel_rfl, rfl⟩) ⟨D8.out.ev, D8.out.told⟩ ?_
        try simp only [Act.put, nA, nB, nC, nD, nE, nF]
        refine held_take 19 ?_ rfl (by kernel_rfl) (by kernel_rfl) (by kernel_rfl) (fun _ _ _ h => h) (Or.inl ⟨by kernel_rfl, ?_⟩) ⟨D8.out.ev, D8.out.told⟩ ?_
        rotate_left 1
        · intro u hu; go_simp; first | done | with_reducible rfl
        try simp only [Act.put, nA, nB, nC, nD, nE, nF]
        refine held_take 20 ?_ rfl (by kernel_rfl) (by kernel_rfl) (by kernel_rfl) (fun _ _ _ h => h) (Or.inl ⟨by kernel_rfl, ?_⟩) ⟨D8.out.ev, D8.out.told⟩ ?_
        rotate_left 1
        · intro u hu; go_simp; first | done | with_reducible rfl
        try simp only [Act.put, nA, nB, nC, nD, nE, nF]
        have x0 : w8.cell? ⟨n + 1, 0, none⟩ = some (.int .i64 0) := cell_blk D8.out.res
        have x1 : w8.cell? ⟨n + 1, 1, none⟩ = some (.int .i64 0) := cell_blk D8.out.res
        have x2 : w8.cell? ⟨n + 1, 2, none⟩ = some (.string ⟨#[]⟩) := cell_blk D8.out.res
        have x3 : w8.cell? ⟨n + 1, 3, none⟩ = some (.int .i64 0) := cell_blk D8.out.res
        have x4 : w8.cell? ⟨n + 1, 4, none⟩ = some (.string ⟨#[]⟩) := cell_blk D8.out.res
        have x5 : w8.cell? ⟨n + 1, 5, none⟩ = some (.int .i64 0) := cell_blk D8.out.res
        have x6 : w8.cell? ⟨n + 1, 6, none⟩ = some (.int .i64 0) := cell_blk D8.out.res
        have x7 : w8.cell? ⟨n + 1, 7, none⟩ = some (.int .i64 0) := cell_blk D8.out.res
        have x8 : w8.cell? ⟨n + 1, 8, none⟩ = some (.string ⟨#[]⟩) := cell_blk D8.out.res
        have z0 : w8.frozen? ⟨n + 1, 0, none⟩ = false := frozen_blk D8.out.res
        have z1 : w8.frozen? ⟨n + 1, 1, none⟩ = false := frozen_blk D8.out.res
        have z2 : w8.frozen? ⟨n + 1, 2, none⟩ = false := frozen_blk D8.out.res
        have z3 : w8.frozen? ⟨n + 1, 3, none⟩ = false := frozen_blk D8.out.res
        have z4 : w8.frozen? ⟨n + 1, 4, none⟩ = false := frozen_blk D8.out.res
        have z5 : w8.frozen? ⟨n + 1, 5, none⟩ = false := frozen_blk D8.out.res
        have z6 : w8.frozen? ⟨n + 1, 6, none⟩ = false := frozen_blk D8.out.res
        have z7 : w8.frozen? ⟨n + 1, 7, none⟩ = false := frozen_blk D8.out.res
        have z8 : w8.frozen? ⟨n + 1, 8, none⟩ = false := frozen_blk D8.out.res
        obtain ⟨wr, ewr⟩ : ∃ x, set9 w8 (n + 1) ⟨5, Sl, A, P, C, 0, 0, 0, []⟩ = x := ⟨_, rfl⟩
        have Fwr := Lib.hid (by have h := D8.out.fin ⟨5, Sl, A, P, C, 0, 0, 0, []⟩; rw [ewr] at h; exact h)
        have fwr : (((((((((w8.setCell ⟨n + 1, 0, none⟩ (.int .i64 (5))).setCell ⟨n + 1, 1, none⟩ (.int .i64 (Sl))).setCell ⟨n + 1, 2, none⟩ (.string (BT (A)))).setCell ⟨n + 1, 3, none⟩ (.int .i64 (P))).setCell ⟨n + 1, 4, none⟩ (.string (BT (C)))).setCell ⟨n + 1, 5, none⟩ (.int .i64 (0))).setCell ⟨n + 1, 6, none⟩ (.int .i64 (0))).setCell ⟨n + 1, 7, none⟩ (.int .i64 (0))).setCell ⟨n + 1, 8, none⟩ (.string ⟨#[]⟩)) = wr := ewr
        clear ewr
        refine held_one 21 (by kernel_rfl) rfl (by kernel_rfl) (fun K hK => ?_)
        go_simp
        refine hK _ _ ⟨Fwr.out.2.2.1, Fwr.out.2.2.2⟩ ?_
        clear hK K
        try simp only [Act.put, nA, nB, nC, nD, nE, nF]
        refine held_take 22 ?_ rfl (by kernel_rfl) (by kernel_rfl) (by kernel_rfl) (fun _ _ _ h => h) (Or.inl ⟨by kernel_rfl, ?_⟩) ⟨Fwr.out.2.2.1, Fwr.out.2.2.2⟩ ?_
        rotate_left 1
        · intro u hu; go_simp; first | done | with_reducible rfl
        try simp only [Act.put, nA, nB, nC, nD, nE, nF]
        refine wpAnyH_done (by kernel_rfl) ?_ _
        go_wp2_with fail
        exact bodyPost_ret (res48 rfl rfl rfl Fwr.out.1) rfl ⟨rfl, Fwr.out.2.1⟩
      | true =>
        refine held_take 6 ?_ rfl (by kernel_rfl) (by kernel_rfl) (by kernel_rfl) (fun _ _ _ h => h) (Or.inl ⟨by kernel_rfl, ?_⟩) ⟨D8.out.ev, D8.out.told⟩ ?_
        rotate_left 1
        · intro u hu; go_simp; first | done | with_reducible rfl
        try simp only [Act.put, nA, nB, nC, nD, nE, nF]
        refine held_take 7 ?_ rfl (by kernel_rfl) (by kernel_rfl) (by kernel_rfl) (fun _ _ _ h => h) (Or.inl ⟨by kernel_rfl, ?_⟩) ⟨D8.out.ev, D8.out.told⟩ ?_
        rotate_left 1
        · intro u hu; go_simp; first | done | with_reducible rfl
        try simp only [Act.put, nA, nB, nC, nD, nE, nF]
        refine held_take 8 ?_ rfl (by kernel_rfl) (by kernel_rfl) (by kernel_rfl) (fun _ _ _ h => h) (Or.inl ⟨by kernel_rfl, ?_⟩) ⟨D8.out.ev, D8.out.told⟩ ?_
        rotate_left 1
        · intro u hu; go_simp; first | done | with_reducible rfl
        try simp only [Act.put, nA, nB, nC, nD, nE, nF]
        refine held_take 9 ?_ rfl (by kernel_rfl) (by kernel_rfl) (by kernel_rfl) (fun _ _ _ h => h) (Or.inl ⟨by kernel_rfl, ?_⟩) ⟨D8.out.ev, D8.out.told⟩ ?_
        rotate_left 1
        · intro u hu; obtain ⟨hu1, hu2⟩ := hu; have y4 : u.cell? ⟨n, 4, none⟩ = some (.string (BT (C))) := cell_blk hu1; have y2 : u.cell? ⟨n, 2, none⟩ = some (.string (BT (A))) := cell_blk hu1; go_simp; first | done | with_reducible rfl
        try simp only [Act.put, nA, nB, nC, nD, nE, nF]
        refine held_call 10 (by kernel_rfl) rfl (by kernel_rfl) (by first | rfl | go_simp) (GC.out _) ?_ (fun c u h => by cases h.1) (fun u h => by cases h.1)
        rintro v9 w9 ⟨he, t⟩
        cases he
        have D9 := Lib.hid (D8.out.turn t)
        clear t
        refine ⟨⟨D9.out.ev, D9.out.told⟩, ?_⟩
        try simp only [Act.put, nA, nB, nC, nD, nE, nF]
        cases zc with
        | false =>
          refine held_take 11 ?_ rfl (by kernel_rfl) (by kernel_rfl) (by kernel_rfl) (fun _ _ _ h => h) (Or.inl ⟨by kernel_rfl, ?_⟩) ⟨D9.out.ev, D9.out.told⟩ ?_
          rotate_left 1
          · intro u hu; go_simp; first | done | with_reducible rfl
          try simp only [Act.put, nA, nB, nC, nD, nE, nF]
          refine held_take 12 ?_ rfl (by kernel_rfl) (by kernel_rfl) (by kernel_rfl) (fun _ _ _ h => h) (Or.inl ⟨by kernel_rfl, ?_⟩) ⟨D9.out.ev, D9.out.told⟩ ?_
          rotate_left 1
          · intro u hu; go_simp; first | done | with_reducible rfl
          try simp only [Act.put, nA, nB, nC, nD, nE, nF]
          refine held_take 13 undef rfl (by kernel_rfl) (by kernel_rfl) (by kernel_rfl) (fun _ _ _ h => h) (Or.inr ⟨by kernel_rfl, rfl⟩) ⟨D9.out.ev, D9.out.told⟩ ?_
          try simp only [Act.put, nA, nB, nC, nD, nE, nF]
          refine held_take 14 undef rfl (by kernel_rfl) (by kernel_rfl) (by kernel_rfl) (fun _ _ _ h => h) (Or.inr ⟨by kernel_rfl, rfl⟩) ⟨D9.out.ev, D9.out.told⟩ ?_
          try simp only [Act.put, nA, nB, nC, nD, nE, nF]
          refine held_take 15 undef rfl (by kernel_rfl) (by kernel_rfl) (by kernel_rfl) (fun _ _ _ h => h) (Or.inr ⟨by kernel_rfl, rfl⟩) ⟨D9.out.ev, D9.out.told⟩ ?_
          try simp only [Act.put, nA, nB, nC, nD, nE, nF]
          refine held_take 16 undef rfl (by kernel_rfl) (by kernel_rfl) (by kernel_rfl) (fun _ _ _ h => h) (Or.inr ⟨by kernel_rfl, rfl⟩) ⟨D9.out.ev, D9.out.told⟩ ?_
          try simp only [Act.put, nA, nB, nC, nD, nE, nF]
          refine held_take 17 undef rfl (by kernel_rfl) (by kernel_rfl) (by kernel_rfl) (fun _ _ _ h => h) (Or.inr ⟨by kernel_rfl, rfl⟩) ⟨D9.out.ev, D9.out.told⟩ ?_
          try simp only [Act.put, nA, nB, nC, nD, nE, nF]
          refine held_take 18 undef rfl (by kernel_rfl) (by kernel_rfl) (by kernel_rfl) (fun _ _ _ h => h) (Or.inr ⟨by kernel_rfl, rfl⟩) ⟨D9.out.ev, D9.out.told⟩ ?_
          try simp only [Act.put, nA, nB, nC, nD, nE, nF]
          refine held_take 19 ?_ rfl (by kernel_rfl) (by kernel_rfl) (by kernel_rfl) (fun _ _ _ h => h) (Or.inl ⟨by kernel_rfl, ?_⟩) ⟨D9.out.ev, D9.out.told⟩ ?_
          rotate_left 1
          · intro u hu; go_simp; first | done | with_reducible rfl
          try simp only [Act.put, nA, nB, nC, nD, nE, nF]
          refine held_take 20 ?_ rfl (by kernel_rfl) (by kernel_rfl) (by kernel_rfl) (fun _ _ _ h => h) (Or.inl ⟨by kernel_rfl, ?_⟩) ⟨D9.out.ev, D9.out.told⟩ ?_
          rotate_left 1
          · intro u hu; go_simp; first | done | with_reducible rfl
          try simp only [Act.put, nA, nB, nC, nD, nE, nF]
          have x0 : w9.cell? ⟨n + 1, 0, none⟩ = some (.int .i64 0) := cell_blk D9.out.res
          have x1 : w9.cell? ⟨n + 1, 1, none⟩ = some (.int .i64 0) := cell_blk D9.out.res
          have x2 : w9.cell? ⟨n + 1, 2, none⟩ = some (.string ⟨#[]⟩) := cell_blk D9.out.res
          have x3 : w9.cell? ⟨n + 1, 3, none⟩ = some (.int .i64 0) := cell_blk D9.out.res
          have x4 : w9.cell? ⟨n + 1, 4, none⟩ = some (.string ⟨#[]⟩) := cell_blk D9.out.res
          have x5 : w9.cell? ⟨n + 1, 5, none⟩ = some (.int .i64 0) := cell_blk D9.out.res
          have x6 : w9.cell? ⟨n + 1, 6, none⟩ = some (.int .i64 0) := cell_blk D9.out.res
          have x7 : w9.cell? ⟨n + 1, 7, none⟩ = some (.int .i64 0) := cell_blk D9.out.res
          have x8 : w9.cell? ⟨n + 1, 8, none⟩ = some (.string ⟨#[]⟩) := cell_blk D9.out.res
          have z0 : w9.frozen? ⟨n + 1, 0, none⟩ = false := frozen_blk D9.out.res
          have z1 : w9.frozen? ⟨n + 1, 1, none⟩ = false := frozen_blk D9.out.res
          have z2 : w9.frozen? ⟨n + 1, 2, none⟩ = false := frozen_blk D9.out.res
          have z3 : w9.frozen? ⟨n + 1, 3, none⟩ = false := frozen_blk D9.out.res
          have z4 : w9.frozen? ⟨n + 1, 4, none⟩ = false := frozen_blk D9.out.res
          have z5 : w9.frozen? ⟨n + 1, 5, none⟩ = false := frozen_blk D9.out.res
          have z6 : w9.frozen? ⟨n + 1, 6, none⟩ = false := frozen_blk D9.out.res
          have z7 : w9.frozen? ⟨n + 1, 7, none⟩ = false := frozen_blk D9.out.res
          have z8 : w9.frozen? ⟨n + 1, 8, none⟩ = false := frozen_blk D9.out.res
          obtain ⟨wr, ewr⟩ : ∃ x, set9 w9 (n + 1) ⟨5, Sl, A, P, C, 0, 0, 0, []⟩ = x := ⟨_, rfl⟩
          have Fwr := Lib.hid (by have h := D9.out.fin ⟨5, Sl, A, P, C, 0, 0, 0, []⟩; rw [ewr] at h; exact h)
          have fwr : (((((((((w9.setCell ⟨n + 1, 0, none⟩ (.int .i64 (5))).setCell ⟨n + 1, 1, none⟩ (.int .i64 (Sl))).setCell ⟨n + 1, 2, none⟩ (.string (BT (A)))).setCell ⟨n + 1, 3, none⟩ (.int .i64 (P))).setCell ⟨n + 1, 4, none⟩ (.string (BT (C)))).setCell ⟨n + 1, 5, none⟩ (.int .i64 (0))).setCell ⟨n + 1, 6, none⟩ (.int .i64 (0))).setCell ⟨n + 1, 7, none⟩ (.int .i64 (0))).setCell ⟨n + 1, 8, none⟩ (.string ⟨#[]⟩)) = wr := ewr
          clear ewr
          refine held_one 21 (by kernel_rfl) rfl (by kernel_rfl) (fun K hK => ?_)
          go_simp
          refine hK _ _ ⟨Fwr.out.2.2.1, Fwr.out.2.2.2⟩ ?_
          clear hK K
          try simp only [Act.put, nA, nB, nC, nD, nE, nF]
          refine held_take 22 ?_ rfl (by kernel_rfl) (by kernel_rfl) (by kernel_rfl) (fun _ _ _ h => h) (Or.inl ⟨by kernel_rfl, ?_⟩) ⟨Fwr.out.2.2.1, Fwr.out.2.2.2⟩ ?_
          rotate_left 1
          · intro u hu; go_simp; first | done | with_reducible rfl
          try simp only [Act.put, nA, nB, nC, nD, nE, nF]
          refine wpAnyH_done (by kernel_rfl) ?_ _
          go_wp2_with fail
          exact bodyPost_ret (res48 rfl rfl rfl Fwr.out.1) rfl ⟨rfl, Fwr.out.2.1⟩
        | true =>
          refine held_take 11 ?_ rfl (by kernel_rfl) (by kernel_rfl) (by kernel_rfl) (fun _ _ _ h => h) (Or.inl ⟨by kernel_rfl, ?_⟩) ⟨D9.out.ev, D9.out.told⟩ ?_
          rotate_left 1
          · intro u hu; go_simp; first | done | with_reducible rfl
          try simp only [Act.put, nA, nB, nC, nD, nE, nF]
          refine held_take 12 ?_ rfl (by kernel_rfl) (by kernel_rfl) (by kernel_rfl) (fun _ _ _ h => h) (Or.inl ⟨by kernel_rfl, ?_⟩) ⟨D9.out.ev, D9.out.told⟩ ?_
          rotate_left 1
          · intro u hu; go_simp; first | done | with_reducible rfl
          try simp only [Act.put, nA, nB, nC, nD, nE, nF]
          refine held_take 13 ?_ rfl (by kernel_rfl) (by kernel_rfl) (by kernel_rfl) (fun _ _ _ h => h) (Or.inl ⟨by kernel_rfl, ?_⟩) ⟨D9.out.ev, D9.out.told⟩ ?_
          rotate_left 1
          · intro u hu; go_simp; first | done | with_reducible rfl
          try simp only [Act.put, nA, nB, nC, nD, nE, nF]
          refine held_take 14 ?_ rfl (by kernel_rfl) (by kernel_rfl) (by kernel_rfl) (fun _ _ _ h => h) (Or.inl ⟨by kernel_rfl, ?_⟩) ⟨D9.out.ev, D9.out.told⟩ ?_
          rotate_left 1
          · intro u hu; obtain ⟨hu1, hu2⟩ := hu; have y4 : u.cell? ⟨n, 4, none⟩ = some (.string (BT (C))) := cell_blk hu1; have y2 : u.cell? ⟨n, 2, none⟩ = some (.string (BT (A))) := cell_blk hu1; go_simp; first | done | with_reducible rfl
          try simp only [Act.put, nA, nB, nC, nD, nE, nF]
          refine held_take 16 ?_ rfl (by kernel_rfl) (by kernel_rfl) (by kernel_rfl) (fun _ _ _ h => h) (Or.inl ⟨by kernel_rfl, ?_⟩) ⟨D9.out.ev, D9.out.told⟩ ?_
          rotate_left 1
          · intro u hu; go_simp; first | done | with_reducible rfl
          try simp only [Act.put, nA, nB, nC, nD, nE, nF]
          refine held_take 17 ?_ rfl (by kernel_rfl) (by kernel_rfl) (by kernel_rfl) (fun _ _ _ h => h) (Or.inl ⟨by kernel_rfl, ?_⟩) ⟨D9.out.ev, D9.out.told⟩ ?_
          rotate_left 1
          · intro u hu; obtain ⟨hu1, hu2⟩ := hu; have y4 : u.cell? ⟨n, 4, none⟩ = some (.string (BT (C))) := cell_blk hu1; have y2 : u.cell? ⟨n, 2, none⟩ = some (.string (BT (A))) := cell_blk hu1; go_simp; first | done | with_reducible rfl
          try simp only [Act.put, nA, nB, nC, nD, nE, nF]
          refine held_call 15 (by kernel_rfl) rfl (by kernel_rfl) (by first | rfl | go_simp) (GPC.out _) ?_ (fun c u h => by cases h.1) (fun u h => by cases h.1)
          rintro v9 w10 ⟨he, t⟩
          cases he
          have D10 := Lib.hid (D9.out.turn t)
          clear t
          refine ⟨⟨D10.out.ev, D10.out.told⟩, ?_⟩
          try simp only [Act.put, nA, nB, nC, nD, nE, nF]
          have hq := HQ.out
          refine held_take 18 ?_ rfl (by kernel_rfl) (by kernel_rfl) (by kernel_rfl) (fun _ _ _ h => h) (Or.inl ⟨by kernel_rfl, ?_⟩) ⟨D10.out.ev, D10.out.told⟩ ?_
          rotate_left 1
          · intro u hu; go_simp; first | done | with_reducible rfl
          try simp only [Act.put, nA, nB, nC, nD, nE, nF]
          clear hq
          refine held_take 19 ?_ rfl (by kernel_rfl) (by kernel_rfl) (by kernel_rfl) (fun _ _ _ h => h) (Or.inl ⟨by kernel_rfl, ?_⟩) ⟨D10.out.ev, D10.out.told⟩ ?_
          rotate_left 1
          · intro u hu; go_simp; first | done | with_reducible rfl
          try simp only [Act.put, nA, nB, nC, nD, nE, nF]
          refine held_take 20 ?_ rfl (by kernel_rfl) (by kernel_rfl) (by kernel_rfl) (fun _ _ _ h => h) (Or.inl ⟨by kernel_rfl, ?_⟩) ⟨D10.out.ev, D10.out.told⟩ ?_
          rotate_left 1
          · intro u hu; go_simp; first | done | with_reducible rfl
          try simp only [Act.put, nA, nB, nC, nD, nE, nF]
          have x0 : w10.cell? ⟨n + 1, 0, none⟩ = some (.int .i64 0) := cell_blk D10.out.res
          have x1 : w10.cell? ⟨n + 1, 1, none⟩ = some (.int .i64 0) := cell_blk D10.out.res
          have x2 : w10.cell? ⟨n + 1, 2, none⟩ = some (.string ⟨#[]⟩) := cell_blk D10.out.res
          have x3 : w10.cell? ⟨n + 1, 3, none⟩ = some (.int .i64 0) := cell_blk D10.out.res
          have x4 : w10.cell? ⟨n + 1, 4, none⟩ = some (.string ⟨#[]⟩) := cell_blk D10.out.res
          have x5 : w10.cell? ⟨n + 1, 5, none⟩ = some (.int .i64 0) := cell_blk D10.out.res
          have x6 : w10.cell? ⟨n + 1, 6, none⟩ = some (.int .i64 0) := cell_blk D10.out.res
          have x7 : w10.cell? ⟨n + 1, 7, none⟩ = some (.int .i64 0) := cell_blk D10.out.res
          have x8 : w10.cell? ⟨n + 1, 8, none⟩ = some (.string ⟨#[]⟩) := cell_blk D10.out.res
          have z0 : w10.frozen? ⟨n + 1, 0, none⟩ = false := frozen_blk D10.out.res
          have z1 : w10.frozen? ⟨n + 1, 1, none⟩ = false := frozen_blk D10.out.res
          have z2 : w10.frozen? ⟨n + 1, 2, none⟩ = false := frozen_blk D10.out.res
          have z3 : w10.frozen? ⟨n + 1, 3, none⟩ = false := frozen_blk D10.out.res
          have z4 : w10.frozen? ⟨n + 1, 4, none⟩ = false := frozen_blk D10.out.res
          have z5 : w10.frozen? ⟨n + 1, 5, none⟩ = false := frozen_blk D10.out.res
          have z6 : w10.frozen? ⟨n + 1, 6, none⟩ = false := frozen_blk D10.out.res
          have z7 : w10.frozen? ⟨n + 1, 7, none⟩ = false := frozen_blk D10.out.res
          have z8 : w10.frozen? ⟨n + 1, 8, none⟩ = false := frozen_blk D10.out.res
          obtain ⟨wr, ewr⟩ : ∃ x, set9 w10 (n + 1) ⟨5, Sl, A, P, C, 0, 0, 0, []⟩ = x := ⟨_, rfl⟩
          have Fwr := Lib.hid (by have h := D10.out.fin ⟨5, Sl, A, P, C, 0, 0, 0, []⟩; rw [ewr] at h; exact h)
          have fwr : (((((((((w10.setCell ⟨n + 1, 0, none⟩ (.int .i64 (5))).setCell ⟨n + 1, 1, none⟩ (.int .i64 (Sl))).setCell ⟨n + 1, 2, none⟩ (.string (BT (A)))).setCell ⟨n + 1, 3, none⟩ (.int .i64 (P))).setCell ⟨n + 1, 4, none⟩ (.string (BT (C)))).setCell ⟨n + 1, 5, none⟩ (.int .i64 (0))).setCell ⟨n + 1, 6, none⟩ (.int .i64 (0))).setCell ⟨n + 1, 7, none⟩ (.int .i64 (0))).setCell ⟨n + 1, 8, none⟩ (.string ⟨#[]⟩)) = wr := ewr
          clear ewr
          refine held_one 21 (by kernel_rfl) rfl (by kernel_rfl) (fun K hK => ?_)
          go_simp
          refine hK _ _ ⟨Fwr.out.2.2.1, Fwr.out.2.2.2⟩ ?_
          clear hK K
          try simp only [Act.put, nA, nB, nC, nD, nE, nF]
          refine held_take 22 ?_ rfl (by kernel_rfl) (by kernel_rfl) (by kernel_rfl) (fun _ _ _ h => h) (Or.inl ⟨by kernel_rfl, ?_⟩) ⟨Fwr.out.2.2.1, Fwr.out.2.2.2⟩ ?_
          rotate_left 1
          · intro u hu; go_simp; first | done | with_reducible rfl
          try simp only [Act.put, nA, nB, nC, nD, nE, nF]
          refine wpAnyH_done (by kernel_rfl) ?_ _
          go_wp2_with fail
          exact bodyPost_ret (res48 rfl rfl rfl Fwr.out.1) rfl ⟨rfl, Fwr.out.2.1⟩
    by_cases k6 : K = 6
    · subst k6
      obtain ⟨zc, hzc⟩ : ∃ z, actorL N = z := ⟨_, rfl⟩
      obtain ⟨PC, hPC⟩ : ∃ z, parentL N = z := ⟨_, rfl⟩
      have HZC := Lib.hid hzc
      have HPC := Lib.hid hPC
      rw [hzc] at GN
      rw [hPC] at GPN
      clear hzc hPC
      have hq := beq_dec2 PC A
      have HQ := Lib.hid hq
      clear hq
      have hR : ((Hd ++ 32 :: (wSpawned ++ 32 :: N), ⟨6, Sl, A, P, [], 0, 0, 0, N⟩, (Wh && (zc && decide (PC = A)))) : Bs × EventD × Bool) = (R1, R2, R3) := by
        have hb : decide (actorL N = true ∧ parentL N = A) = (actorL N && decide (parentL N = A)) := by cases actorL N <;> simp
        rw [← HHd.out, ← HWh.out, ← HZC.out, ← HPC.out, ← hb]
        exact HR.out
      simp only [Prod.mk.injEq] at hR
      obtain ⟨rfl, rfl, rfl⟩ := hR
      have lH := LH.out
      have lV := LL.out.2
      have hcat1 : ∀ W, (Op.stringOp .add (BT Hd) ⟨#[32, 115, 112, 97, 119, 110, 101, 100, 32]⟩).run Tryz.prog W = .ok (.string (BT (Hd ++ [32, 115, 112, 97, 119, 110, 101, 100, 32]))) W := fun W => cat_run (b := [32, 115, 112, 97, 119, 110, 101, 100, 32]) (by simp; omega) W
      have hcat2 : ∀ W, (Op.stringOp .add (BT (Hd ++ [32, 115, 112, 97, 119, 110, 101, 100, 32])) (BT N)).run Tryz.prog W = .ok (.string (BT (Hd ++ 32 :: (wSpawned ++ 32 :: N)))) W := fun W => by
        rw [cat_run (by simp; omega) W]
        simp [wSpawned]
      clear lH lV
      have y8 : w6.cell? ⟨n, 8, none⟩ = some (.string (BT N)) := cell_blk D6.out.ev
      have x8 : w6.cell? ⟨n + 2, 8, none⟩ = some (.string ⟨#[]⟩) := cell_blk D6.out.told
      have z8 : w6.frozen? ⟨n + 2, 8, none⟩ = false := frozen_blk D6.out.told
      obtain ⟨w7, ew7⟩ : ∃ x, w6.setCell ⟨n + 2, 8, none⟩ (.string (BT N)) = x := ⟨_, rfl⟩
      have D7 : Hid (TDoor w w7 n ⟨6, Sl, A, P, C, Sd, Tg, Wd, N⟩ ⟨6, Sl, A, P, [], 0, 0, 0, N⟩) := Lib.hid (by rw [← ew7]; exact D6.out.set 8 (.string (BT N)) rfl)
      go_upto_region 21 with (fail)
      clear ew7 y8 x8 z8
      refine held_begin (fun u => EvAt u n ⟨6, Sl, A, P, C, Sd, Tg, Wd, N⟩ ∧ EvAt u (n + 2) ⟨6, Sl, A, P, [], 0, 0, 0, N⟩) (by kernel_rfl) ?_
      have D8 := Lib.hid (D7.out.turn (Turn.refl Nn w7).drew)
      generalize World.drew w7 = w8 at D8 ⊢
      refine held_take 0 ?_ rfl (by kernel_rfl) (by kernel_rfl) (by kernel_rfl) (fun _ _ _ h => h) (Or.inl ⟨by kernel_rfl, ?_⟩) ⟨D8.out.ev, D8.out.told⟩ ?_
      rotate_left 1
      · intro u hu; go_simp; first | done | with_reducible rfl
      try simp only [Act.put, nA, nB, nC, nD, nE, nF]
      refine held_take 1 ?_ rfl (by kernel_rfl) (by kernel_rfl) (by kernel_rfl) (fun _ _ _ h => h) (Or.inl ⟨by kernel_rfl, ?_⟩) ⟨D8.out.ev, D8.out.told⟩ ?_
      rotate_left 1
      · intro u hu; go_simp; first | done | with_reducible rfl
      try simp only [Act.put, nA, nB, nC, nD, nE, nF]
      refine held_take 2 ?_ rfl (by kernel_rfl) (by kernel_rfl) (by kernel_rfl) (fun _ _ _ h => h) (Or.inl ⟨by kernel_rfl, ?_⟩) ⟨D8.out.ev, D8.out.told⟩ ?_
      rotate_left 1
      · intro u hu; go_simp; first | done | with_reducible rfl
      try simp only [Act.put, nA, nB, nC, nD, nE, nF]
      refine held_take 3 ?_ rfl (by kernel_rfl) (by kernel_rfl) (by kernel_rfl) (fun _ _ _ h => h) (Or.inl ⟨by kernel_rfl, ?_⟩) ⟨D8.out.ev, D8.out.told⟩ ?_
      rotate_left 1
      · intro u hu; obtain ⟨hu1, hu2⟩ := hu; have y8 : u.cell? ⟨n, 8, none⟩ = some (.string (BT (N))) := cell_blk hu1; have y2 : u.cell? ⟨n, 2, none⟩ = some (.string (BT (A))) := cell_blk hu1; go_simp; first | done | with_reducible rfl
      try simp only [Act.put, nA, nB, nC, nD, nE, nF]
      refine held_take 4 ?_ rfl (by kernel_rfl) (by kernel_rfl) (by kernel_rfl) (fun _ _ _ h => h) (Or.inl ⟨by kernel_rfl, ?_⟩) ⟨D8.out.ev, D8.out.told⟩ ?_
      rotate_left 1
      · intro u hu; go_simp; first | done | with_reducible rfl
      try simp only [Act.put, nA, nB, nC, nD, nE, nF]
      clear hcat1 hcat2
      refine held_take 5 ?_ rfl (by kernel_rfl) (by kernel_rfl) (by kernel_rfl) (fun _ _ _ h => h) (Or.inl ⟨by kernel_rfl, ?_⟩) ⟨D8.out.ev, D8.out.told⟩ ?_
      rotate_left 1
      · intro u hu; obtain ⟨hu1, hu2⟩ := hu; have x0 : u.cell? ⟨n + 2, 0, none⟩ = some (.int .i64 (6)) := cell_blk hu2; have x1 : u.cell? ⟨n + 2, 1, none⟩ = some (.int .i64 (Sl)) := cell_blk hu2; have x2 : u.cell? ⟨n + 2, 2, none⟩ = some (.string (BT (A))) := cell_blk hu2; have x3 : u.cell? ⟨n + 2, 3, none⟩ = some (.int .i64 (P)) := cell_blk hu2; have x4 : u.cell? ⟨n + 2, 4, none⟩ = some (.string ⟨#[]⟩) := cell_blk hu2; have x5 : u.cell? ⟨n + 2, 5, none⟩ = some (.int .i64 (0)) := cell_blk hu2; have x6 : u.cell? ⟨n + 2, 6, none⟩ = some (.int .i64 (0)) := cell_blk hu2; have x7 : u.cell? ⟨n + 2, 7, none⟩ = some (.int .i64 (0)) := cell_blk hu2; have x8 : u.cell? ⟨n + 2, 8, none⟩ = some (.string (BT (N))) := cell_blk hu2; go_simp; first | done | with_reducible rfl
      try simp only [Act.put, nA, nB, nC, nD, nE, nF]
      cases Wh with
      | false =>
        refine held_take 6 ?_ rfl (by kernel_rfl) (by kernel_rfl) (by kernel_rfl) (fun _ _ _ h => h) (Or.inl ⟨by kernel_rfl, ?_⟩) ⟨D8.out.ev, D8.out.told⟩ ?_
        rotate_left 1
        · intro u hu; go_simp; first | done | with_reducible rfl
        try simp only [Act.put, nA, nB, nC, nD, nE, nF]
        refine held_take 7 ?_ rfl (by kernel_rfl) (by kernel_rfl) (by kernel_rfl) (fun _ _ _ h => h) (Or.inl ⟨by kernel_rfl, ?_⟩) ⟨D8.out.ev, D8.out.told⟩ ?_
        rotate_left 1
        · intro u hu; go_simp; first | done | with_reducible rfl
        try simp only [Act.put, nA, nB, nC, nD, nE, nF]
        refine held_take 8 undef rfl (by kernel_rfl) (by kernel_rfl) (by kernel_rfl) (fun _ _ _ h => h) (Or.inr ⟨by kernel_rfl, rfl⟩) ⟨D8.out.ev, D8.out.told⟩ ?_
        try simp only [Act.put, nA, nB, nC, nD, nE, nF]
        refine held_take 9 undef rfl (by kernel_rfl) (by kernel_rfl) (by kernel_rfl) (fun _ _ _ h => h) (Or.inr ⟨by kernel_rfl, rfl⟩) ⟨D8.out.ev, D8.out.told⟩ ?_
        try simp only [Act.put, nA, nB, nC, nD, nE, nF]
        refine held_take 10 undef rfl (by kernel_rfl) (by kernel_rfl) (by kernel_rfl) (fun _ _ _ h => h) (Or.inr ⟨by kernel_rfl, rfl⟩) ⟨D8.out.ev, D8.out.told⟩ ?_
        try simp only [Act.put, nA, nB, nC, nD, nE, nF]
        refine held_take 11 ?_ rfl (by kernel_rfl) (by kernel_rfl) (by kernel_rfl) (fun _ _ _ h => h) (Or.inl ⟨by kernel_rfl, ?_⟩) ⟨D8.out.ev, D8.out.told⟩ ?_
        rotate_left 1
        · intro u hu; go_simp; first | done | with_reducible rfl
        try simp only [Act.put, nA, nB, nC, nD, nE, nF]
        refine held_take 12 ?_ rfl (by kernel_rfl) (by kernel_rfl) (by kernel_rfl) (fun _ _ _ h => h) (Or.inl ⟨by kernel_rfl, ?_⟩) ⟨D8.out.ev, D8.out.told⟩ ?_
        rotate_left 1
        · intro u hu; go_simp; first | done | with_reducible rfl
        try simp only [Act.put, nA, nB, nC, nD, nE, nF]
        refine held_take 13 undef rfl (by kernel_rfl) (by kernel_rfl) (by kernel_rfl) (fun _ _ _ h => h) (Or.inr ⟨by kernel_rfl, rfl⟩) ⟨D8.out.ev, D8.out.told⟩ ?_
        try simp only [Act.put, nA, nB, nC, nD, nE, nF]
        refine held_take 14 undef rfl (by kernel_rfl) (by kernel_rfl) (by kernel_rfl) (fun _ _ _ h => h) (Or.inr ⟨by kernel_rfl, rfl⟩) ⟨D8.out.ev, D8.out.told⟩ ?_
        try simp only [Act.put, nA, nB, nC, nD, nE, nF]
        refine held_take 15 undef rfl (by kernel_rfl) (by kernel_rfl) (by kernel_rfl) (fun _ _ _ h => h) (Or.inr ⟨by kernel_rfl, rfl⟩) ⟨D8.out.ev, D8.out.told⟩ ?_
        try simp only [Act.put, nA, nB, nC, nD, nE, nF]
        refine held_take 16 undef rfl (by kernel_rfl) (by kernel_rfl) (by kernel_rfl) (fun _ _ _ h => h) (Or.inr ⟨by kernel_rfl, rfl⟩) ⟨D8.out.ev, D8.out.told⟩ ?_
        try simp only [Act.put, nA, nB, nC, nD, nE, nF]
        refine held_take 17 undef rfl (by kernel_rfl) (by kernel_rfl) (by kernel_rfl) (fun _ _ _ h => h) (Or.inr ⟨by kernel_rfl, rfl⟩) ⟨D8.out.ev, D8.out.told⟩ ?_
        try simp only [Act.put, nA, nB, nC, nD, nE, nF]
        refine held_take 18 undef rfl (by kernel_rfl) (by kernel_rfl) (by kernel_rfl) (fun _ _ _ h => h) (Or.inr ⟨by kernel_rfl, rfl⟩) ⟨D8.out.ev, D8.out.told⟩ ?_
        try simp only [Act.put, nA, nB, nC, nD, nE, nF]
        refine held_take 19 ?_ rfl (by kernel_rfl) (by kernel_rfl) (by kernel_rfl) (fun _ _ _ h => h) (Or.inl ⟨by kernel_rfl, ?_⟩) ⟨D8.out.ev, D8.out.told⟩ ?_
        rotate_left 1
        · intro u hu; go_simp; first | done | with_reducible rfl
        try simp only [Act.put, nA, nB, nC, nD, nE, nF]
        refine held_take 20 ?_ rfl (by kernel_rfl) (by kernel_rfl) (by kernel_rfl) (fun _ _ _ h => h) (Or.inl ⟨by kernel_rfl, ?_⟩) ⟨D8.out.ev, D8.out.told⟩ ?_
        rotate_left 1
        · intro u hu; go_simp; first | done | with_reducible rfl
        try simp only [Act.put, nA, nB, nC, nD, nE, nF]
        have x0 : w8.cell? ⟨n + 1, 0, none⟩ = some (.int .i64 0) := cell_blk D8.out.res
        have x1 : w8.cell? ⟨n + 1, 1, none⟩ = some (.int .i64 0) := cell_blk D8.out.res
        have x2 : w8.cell? ⟨n + 1, 2, none⟩ = some (.string ⟨#[]⟩) := cell_blk D8.out.res
        have x3 : w8.cell? ⟨n + 1, 3, none⟩ = some (.int .i64 0) := cell_blk D8.out.res
        have x4 : w8.cell? ⟨n + 1, 4, none⟩ = some (.string ⟨#[]⟩) := cell_blk D8.out.res
        have x5 : w8.cell? ⟨n + 1, 5, none⟩ = some (.int .i64 0) := cell_blk D8.out.res
        have x6 : w8.cell? ⟨n + 1, 6, none⟩ = some (.int .i64 0) := cell_blk D8.out.res
        have x7 : w8.cell? ⟨n + 1, 7, none⟩ = some (.int .i64 0) := cell_blk D8.out.res
        have x8 : w8.cell? ⟨n + 1, 8, none⟩ = some (.string ⟨#[]⟩) := cell_blk D8.out.res
        have z0 : w8.frozen? ⟨n + 1, 0, none⟩ = false := frozen_blk D8.out.res
        have z1 : w8.frozen? ⟨n + 1, 1, none⟩ = false := frozen_blk D8.out.res
        have z2 : w8.frozen? ⟨n + 1, 2, none⟩ = false := frozen_blk D8.out.res
        have z3 : w8.frozen? ⟨n + 1, 3, none⟩ = false := frozen_blk D8.out.res
        have z4 : w8.frozen? ⟨n + 1, 4, none⟩ = false := frozen_blk D8.out.res
        have z5 : w8.frozen? ⟨n + 1, 5, none⟩ = false := frozen_blk D8.out.res
        have z6 : w8.frozen? ⟨n + 1, 6, none⟩ = false := frozen_blk D8.out.res
        have z7 : w8.frozen? ⟨n + 1, 7, none⟩ = false := frozen_blk D8.out.res
        have z8 : w8.frozen? ⟨n + 1, 8, none⟩ = false := frozen_blk D8.out.res
        obtain ⟨wr, ewr⟩ : ∃ x, set9 w8 (n + 1) ⟨6, Sl, A, P, [], 0, 0, 0, N⟩ = x := ⟨_, rfl⟩
        have Fwr := Lib.hid (by have h := D8.out.fin ⟨6, Sl, A, P, [], 0, 0, 0, N⟩; rw [ewr] at h; exact h)
        have fwr : (((((((((w8.setCell ⟨n + 1, 0, none⟩ (.int .i64 (6))).setCell ⟨n + 1, 1, none⟩ (.int .i64 (Sl))).setCell ⟨n + 1, 2, none⟩ (.string (BT (A)))).setCell ⟨n + 1, 3, none⟩ (.int .i64 (P))).setCell ⟨n + 1, 4, none⟩ (.string ⟨#[]⟩)).setCell ⟨n + 1, 5, none⟩ (.int .i64 (0))).setCell ⟨n + 1, 6, none⟩ (.int .i64 (0))).setCell ⟨n + 1, 7, none⟩ (.int .i64 (0))).setCell ⟨n + 1, 8, none⟩ (.string (BT (N)))) = wr := ewr
        clear ewr
        refine held_one 21 (by kernel_rfl) rfl (by kernel_rfl) (fun K hK => ?_)
        go_simp
        refine hK _ _ ⟨Fwr.out.2.2.1, Fwr.out.2.2.2⟩ ?_
        clear hK K
        try simp only [Act.put, nA, nB, nC, nD, nE, nF]
        refine held_take 22 ?_ rfl (by kernel_rfl) (by kernel_rfl) (by kernel_rfl) (fun _ _ _ h => h) (Or.inl ⟨by kernel_rfl, ?_⟩) ⟨Fwr.out.2.2.1, Fwr.out.2.2.2⟩ ?_
        rotate_left 1
        · intro u hu; go_simp; first | done | with_reducible rfl
        try simp only [Act.put, nA, nB, nC, nD, nE, nF]
        refine wpAnyH_done (by kernel_rfl) ?_ _
        go_wp2_with fail
        exact bodyPost_ret (res48 rfl rfl rfl Fwr.out.1) rfl ⟨rfl, Fwr.out.2.1⟩
      | true =>
        refine held_take 6 ?_ rfl (by kernel_rfl) (by kernel_rfl) (by kernel_rfl) (fun _ _ _ h => h) (Or.inl ⟨by kernel_rfl, ?_⟩) ⟨D8.out.ev, D8.out.told⟩ ?_
        rotate_left 1
        · intro u hu; go_simp; first | done | with_reducible rfl
        try simp only [Act.put, nA, nB, nC, nD, nE, nF]
        refine held_take 7 ?_ rfl (by kernel_rfl) (by kernel_rfl) (by kernel_rfl) (fun _ _ _ h => h) (Or.inl ⟨by kernel_rfl, ?_⟩) ⟨D8.out.ev, D8.out.told⟩ ?_
        rotate_left 1
        · intro u hu; go_simp; first | done | with_reducible rfl
        try simp only [Act.put, nA, nB, nC, nD, nE, nF]
        refine held_take 8 ?_ rfl (by kernel_rfl) (by kernel_rfl) (by kernel_rfl) (fun _ _ _ h => h) (Or.inl ⟨by kernel_rfl, ?_⟩) ⟨D8.out.ev, D8.out.told⟩ ?_
        rotate_left 1
        · intro u hu; go_simp; first | done | with_reducible rfl
        try simp only [Act.put, nA, nB, nC, nD, nE, nF]
        refine held_take 9 ?_ rfl (by kernel_rfl) (by kernel_rfl) (by kernel_rfl) (fun _ _ _ h => h) (Or.inl ⟨by kernel_rfl, ?_⟩) ⟨D8.out.ev, D8.out.told⟩ ?_
        rotate_left 1
        · intro u hu; obtain ⟨hu1, hu2⟩ := hu; have y8 : u.cell? ⟨n, 8, none⟩ = some (.string (BT (N))) := cell_blk hu1; have y2 : u.cell? ⟨n, 2, none⟩ = some (.string (BT (A))) := cell_blk hu1; go_simp; first | done | with_reducible rfl
        try simp only [Act.put, nA, nB, nC, nD, nE, nF]
        refine held_call 10 (by kernel_rfl) rfl (by kernel_rfl) (by first | rfl | go_simp) (GN.out _) ?_ (fun c u h => by cases h.1) (fun u h => by cases h.1)
        rintro v9 w9 ⟨he, t⟩
        cases he
        have D9 := Lib.hid (D8.out.turn t)
        clear t
        refine ⟨⟨D9.out.ev, D9.out.told⟩, ?_⟩
        try simp only [Act.put, nA, nB, nC, nD, nE, nF]
        cases zc with
        | false =>
          refine held_take 11 ?_ rfl (by kernel_rfl) (by kernel_rfl) (by kernel_rfl) (fun _ _ _ h => h) (Or.inl ⟨by kernel_rfl, ?_⟩) ⟨D9.out.ev, D9.out.told⟩ ?_
          rotate_left 1
          · intro u hu; go_simp; first | done | with_reducible rfl
          try simp only [Act.put, nA, nB, nC, nD, nE, nF]
          refine held_take 12 ?_ rfl (by kernel_rfl) (by kernel_rfl) (by kernel_rfl) (fun _ _ _ h => h) (Or.inl ⟨by kernel_rfl, ?_⟩) ⟨D9.out.ev, D9.out.told⟩ ?_
          rotate_left 1
          · intro u hu; go_simp; first | done | with_reducible rfl
          try simp only [Act.put, nA, nB, nC, nD, nE, nF]
          refine held_take 13 undef rfl (by kernel_rfl) (by kernel_rfl) (by kernel_rfl) (fun _ _ _ h => h) (Or.inr ⟨by kernel_rfl, rfl⟩) ⟨D9.out.ev, D9.out.told⟩ ?_
          try simp only [Act.put, nA, nB, nC, nD, nE, nF]
          refine held_take 14 undef rfl (by kernel_rfl) (by kernel_rfl) (by kernel_rfl) (fun _ _ _ h => h) (Or.inr ⟨by kernel_rfl, rfl⟩) ⟨D9.out.ev, D9.out.told⟩ ?_
          try simp only [Act.put, nA, nB, nC, nD, nE, nF]
          refine held_take 15 undef rfl (by kernel_rfl) (by kernel_rfl) (by kernel_rfl) (fun _ _ _ h => h) (Or.inr ⟨by kernel_rfl, rfl⟩) ⟨D9.out.ev, D9.out.told⟩ ?_
          try simp only [Act.put, nA, nB, nC, nD, nE, nF]
          refine held_take 16 undef rfl (by kernel_rfl) (by kernel_rfl) (by kernel_rfl) (fun _ _ _ h => h) (Or.inr ⟨by kernel_rfl, rfl⟩) ⟨D9.out.ev, D9.out.told⟩ ?_
          try simp only [Act.put, nA, nB, nC, nD, nE, nF]
          refine held_take 17 undef rfl (by kernel_rfl) (by kernel_rfl) (by kernel_rfl) (fun _ _ _ h => h) (Or.inr ⟨by kernel_rfl, rfl⟩) ⟨D9.out.ev, D9.out.told⟩ ?_
          try simp only [Act.put, nA, nB, nC, nD, nE, nF]
          refine held_take 18 undef rfl (by kernel_rfl) (by kernel_rfl) (by kernel_rfl) (fun _ _ _ h => h) (Or.inr ⟨by kernel_rfl, rfl⟩) ⟨D9.out.ev, D9.out.told⟩ ?_
          try simp only [Act.put, nA, nB, nC, nD, nE, nF]
          refine held_take 19 ?_ rfl (by kernel_rfl) (by kernel_rfl) (by kernel_rfl) (fun _ _ _ h => h) (Or.inl ⟨by kernel_rfl, ?_⟩) ⟨D9.out.ev, D9.out.told⟩ ?_
          rotate_left 1
          · intro u hu; go_simp; first | done | with_reducible rfl
          try simp only [Act.put, nA, nB, nC, nD, nE, nF]
          refine held_take 20 ?_ rfl (by kernel_rfl) (by kernel_rfl) (by kernel_rfl) (fun _ _ _ h => h) (Or.inl ⟨by kernel_rfl, ?_⟩) ⟨D9.out.ev, D9.out.told⟩ ?_
          rotate_left 1
          · intro u hu; go_simp; first | done | with_reducible rfl
          try simp only [Act.put, nA, nB, nC, nD, nE, nF]
          have x0 : w9.cell? ⟨n + 1, 0, none⟩ = some (.int .i64 0) := cell_blk D9.out.res
          have x1 : w9.cell? ⟨n + 1, 1, none⟩ = some (.int .i64 0) := cell_blk D9.out.res
          have x2 : w9.cell? ⟨n + 1, 2, none⟩ = some (.string ⟨#[]⟩) := cell_blk D9.out.res
          have x3 : w9.cell? ⟨n + 1, 3, none⟩ = some (.int .i64 0) := cell_blk D9.out.res
          have x4 : w9.cell? ⟨n + 1, 4, none⟩ = some (.string ⟨#[]⟩) := cell_blk D9.out.res
          have x5 : w9.cell? ⟨n + 1, 5, none⟩ = some (.int .i64 0) := cell_blk D9.out.res
          have x6 : w9.cell? ⟨n + 1, 6, none⟩ = some (.int .i64 0) := cell_blk D9.out.res
          have x7 : w9.cell? ⟨n + 1, 7, none⟩ = some (.int .i64 0) := cell_blk D9.out.res
          have x8 : w9.cell? ⟨n + 1, 8, none⟩ = some (.string ⟨#[]⟩) := cell_blk D9.out.res
          have z0 : w9.frozen? ⟨n + 1, 0, none⟩ = false := frozen_blk D9.out.res
          have z1 : w9.frozen? ⟨n + 1, 1, none⟩ = false := frozen_blk D9.out.res
          have z2 : w9.frozen? ⟨n + 1, 2, none⟩ = false := frozen_blk D9.out.res
          have z3 : w9.frozen? ⟨n + 1, 3, none⟩ = false := frozen_blk D9.out.res
          have z4 : w9.frozen? ⟨n + 1, 4, none⟩ = false := frozen_blk D9.out.res
          have z5 : w9.frozen? ⟨n + 1, 5, none⟩ = false := frozen_blk D9.out.res
          have z6 : w9.frozen? ⟨n + 1, 6, none⟩ = false := frozen_blk D9.out.res
          have z7 : w9.frozen? ⟨n + 1, 7, none⟩ = false := frozen_blk D9.out.res
          have z8 : w9.frozen? ⟨n + 1, 8, none⟩ = false := frozen_blk D9.out.res
          obtain ⟨wr, ewr⟩ : ∃ x, set9 w9 (n + 1) ⟨6, Sl, A, P, [], 0, 0, 0, N⟩ = x := ⟨_, rfl⟩
          have Fwr := Lib.hid (by have h := D9.out.fin ⟨6, Sl, A, P, [], 0, 0, 0, N⟩; rw [ewr] at h; exact h)
          have fwr : (((((((((w9.setCell ⟨n + 1, 0, none⟩ (.int .i64 (6))).setCell ⟨n + 1, 1, none⟩ (.int .i64 (Sl))).setCell ⟨n + 1, 2, none⟩ (.string (BT (A)))).setCell ⟨n + 1, 3, none⟩ (.int .i64 (P))).setCell ⟨n + 1, 4, none⟩ (.string ⟨#[]⟩)).setCell ⟨n + 1, 5, none⟩ (.int .i64 (0))).setCell ⟨n + 1, 6, none⟩ (.int .i64 (0))).setCell ⟨n + 1, 7, none⟩ (.int .i64 (0))).setCell ⟨n + 1, 8, none⟩ (.string (BT (N)))) = wr := ewr
          clear ewr
          refine held_one 21 (by kernel_rfl) rfl (by kernel_rfl) (fun K hK => ?_)
          go_simp
          refine hK _ _ ⟨Fwr.out.2.2.1, Fwr.out.2.2.2⟩ ?_
          clear hK K
          try simp only [Act.put, nA, nB, nC, nD, nE, nF]
          refine held_take 22 ?_ rfl (by kernel_rfl) (by kernel_rfl) (by kernel_rfl) (fun _ _ _ h => h) (Or.inl ⟨by kernel_rfl, ?_⟩) ⟨Fwr.out.2.2.1, Fwr.out.2.2.2⟩ ?_
          rotate_left 1
          · intro u hu; go_simp; first | done | with_reducible rfl
          try simp only [Act.put, nA, nB, nC, nD, nE, nF]
          refine wpAnyH_done (by kernel_rfl) ?_ _
          go_wp2_with fail
          exact bodyPost_ret (res48 rfl rfl rfl Fwr.out.1) rfl ⟨rfl, Fwr.out.2.1⟩
        | true =>
          refine held_take 11 ?_ rfl (by kernel_rfl) (by kernel_rfl) (by kernel_rfl) (fun _ _ _ h => h) (Or.inl ⟨by kernel_rfl, ?_⟩) ⟨D9.out.ev, D9.out.told⟩ ?_
          rotate_left 1
          · intro u hu; go_simp; first | done | with_reducible rfl
          try simp only [Act.put, nA, nB, nC, nD, nE, nF]
          refine held_take 12 ?_ rfl (by kernel_rfl) (by kernel_rfl) (by kernel_rfl) (fun _ _ _ h => h) (Or.inl ⟨by kernel_rfl, ?_⟩) ⟨D9.out.ev, D9.out.told⟩ ?_
          rotate_left 1
          · intro u hu; go_simp; first | done | with_reducible rfl
          try simp only [Act.put, nA, nB, nC, nD, nE, nF]
          refine held_take 13 ?_ rfl (by kernel_rfl) (by kernel_rfl) (by kernel_rfl) (fun _ _ _ h => h) (Or.inl ⟨by kernel_rfl, ?_⟩) ⟨D9.out.ev, D9.out.told⟩ ?_
          rotate_left 1
          · intro u hu; go_simp; first | done | with_reducible rfl
          try simp only [Act.put, nA, nB, nC, nD, nE, nF]
          refine held_take 14 ?_ rfl (by kernel_rfl) (by kernel_rfl) (by kernel_rfl) (fun _ _ _ h => h) (Or.inl ⟨by kernel_rfl, ?_⟩) ⟨D9.out.ev, D9.out.told⟩ ?_
          rotate_left 1
          · intro u hu; obtain ⟨hu1, hu2⟩ := hu; have y8 : u.cell? ⟨n, 8, none⟩ = some (.string (BT (N))) := cell_blk hu1; have y2 : u.cell? ⟨n, 2, none⟩ = some (.string (BT (A))) := cell_blk hu1; go_simp; first | done | with_reducible rfl
          try simp only [Act.put, nA, nB, nC, nD, nE, nF]
          refine held_take 16 ?_ rfl (by kernel_rfl) (by kernel_rfl) (by kernel_rfl) (fun _ _ _ h => h) (Or.inl ⟨by kernel_rfl, ?_⟩) ⟨D9.out.ev, D9.out.told⟩ ?_
          rotate_left 1
          · intro u hu; go_simp; first | done | with_reducible rfl
          try simp only [Act.put, nA, nB, nC, nD, nE, nF]
          refine held_take 17 ?_ rfl (by kernel_rfl) (by kernel_rfl) (by kernel_rfl) (fun _ _ _ h => h) (Or.inl ⟨by kernel_rfl, ?_⟩) ⟨D9.out.ev, D9.out.told⟩ ?_
          rotate_left 1
          · intro u hu; obtain ⟨hu1, hu2⟩ := hu; have y8 : u.cell? ⟨n, 8, none⟩ = some (.string (BT (N))) := cell_blk hu1; have y2 : u.cell? ⟨n, 2, none⟩ = some (.string (BT (A))) := cell_blk hu1; go_simp; first | done | with_reducible rfl
          try simp only [Act.put, nA, nB, nC, nD, nE, nF]
          refine held_call 15 (by kernel_rfl) rfl (by kernel_rfl) (by first | rfl | go_simp) (GPN.out _) ?_ (fun c u h => by cases h.1) (fun u h => by cases h.1)
          rintro v9 w10 ⟨he, t⟩
          cases he
          have D10 := Lib.hid (D9.out.turn t)
          clear t
          refine ⟨⟨D10.out.ev, D10.out.told⟩, ?_⟩
          try simp only [Act.put, nA, nB, nC, nD, nE, nF]
          have hq := HQ.out
          refine held_take 18 ?_ rfl (by kernel_rfl) (by kernel_rfl) (by kernel_rfl) (fun _ _ _ h => h) (Or.inl ⟨by kernel_rfl, ?_⟩) ⟨D10.out.ev, D10.out.told⟩ ?_
          rotate_left 1
          · intro u hu; go_simp; first | done | with_reducible rfl
          try simp only [Act.put, nA, nB, nC, nD, nE, nF]
          clear hq
          refine held_take 19 ?_ rfl (by kernel_rfl) (by kernel_rfl) (by kernel_rfl) (fun _ _ _ h => h) (Or.inl ⟨by kernel_rfl, ?_⟩) ⟨D10.out.ev, D10.out.told⟩ ?_
          rotate_left 1
          · intro u hu; go_simp; first | done | with_reducible rfl
          try simp only [Act.put, nA, nB, nC, nD, nE, nF]
          refine held_take 20 ?_ rfl (by kernel_rfl) (by kernel_rfl) (by kernel_rfl) (fun _ _ _ h => h) (Or.inl ⟨by kernel_rfl, ?_⟩) ⟨D10.out.ev, D10.out.told⟩ ?_
          rotate_left 1
          · intro u hu; go_simp; first | done | with_reducible rfl
          try simp only [Act.put, nA, nB, nC, nD, nE, nF]
          have x0 : w10.cell? ⟨n + 1, 0, none⟩ = some (.int .i64 0) := cell_blk D10.out.res
          have x1 : w10.cell? ⟨n + 1, 1, none⟩ = some (.int .i64 0) := cell_blk D10.out.res
          have x2 : w10.cell? ⟨n + 1, 2, none⟩ = some (.string ⟨#[]⟩) := cell_blk D10.out.res
          have x3 : w10.cell? ⟨n + 1, 3, none⟩ = some (.int .i64 0) := cell_blk D10.out.res
          have x4 : w10.cell? ⟨n + 1, 4, none⟩ = some (.string ⟨#[]⟩) := cell_blk D10.out.res
          have x5 : w10.cell? ⟨n + 1, 5, none⟩ = some (.int .i64 0) := cell_blk D10.out.res
          have x6 : w10.cell? ⟨n + 1, 6, none⟩ = some (.int .i64 0) := cell_blk D10.out.res
          have x7 : w10.cell? ⟨n + 1, 7, none⟩ = some (.int .i64 0) := cell_blk D10.out.res
          have x8 : w10.cell? ⟨n + 1, 8, none⟩ = some (.string ⟨#[]⟩) := cell_blk D10.out.res
          have z0 : w10.frozen? ⟨n + 1, 0, none⟩ = false := frozen_blk D10.out.res
          have z1 : w10.frozen? ⟨n + 1, 1, none⟩ = false := frozen_blk D10.out.res
          have z2 : w10.frozen? ⟨n + 1, 2, none⟩ = false := frozen_blk D10.out.res
          have z3 : w10.frozen? ⟨n + 1, 3, none⟩ = false := frozen_blk D10.out.res
          have z4 : w10.frozen? ⟨n + 1, 4, none⟩ = false := frozen_blk D10.out.res
          have z5 : w10.frozen? ⟨n + 1, 5, none⟩ = false := frozen_blk D10.out.res
          have z6 : w10.frozen? ⟨n + 1, 6, none⟩ = false := frozen_blk D10.out.res
          have z7 : w10.frozen? ⟨n + 1, 7, none⟩ = false := frozen_blk D10.out.res
          have z8 : w10.frozen? ⟨n + 1, 8, none⟩ = false := frozen_blk D10.out.res
          obtain ⟨wr, ewr⟩ : ∃ x, set9 w10 (n + 1) ⟨6, Sl, A, P, [], 0, 0, 0, N⟩ = x := ⟨_, rfl⟩
          have Fwr := Lib.hid (by have h := D10.out.fin ⟨6, Sl, A, P, [], 0, 0, 0, N⟩; rw [ewr] at h; exact h)
          have fwr : (((((((((w10.setCell ⟨n + 1, 0, none⟩ (.int .i64 (6))).setCell ⟨n + 1, 1, none⟩ (.int .i64 (Sl))).setCell ⟨n + 1, 2, none⟩ (.string (BT (A)))).setCell ⟨n + 1, 3, none⟩ (.int .i64 (P))).setCell ⟨n + 1, 4, none⟩ (.string ⟨#[]⟩)).setCell ⟨n + 1, 5, none⟩ (.int .i64 (0))).setCell ⟨n + 1, 6, none⟩ (.int .i64 (0))).setCell ⟨n + 1, 7, none⟩ (.int .i64 (0))).setCell ⟨n + 1, 8, none⟩ (.string (BT (N)))) = wr := ewr
          clear ewr
          refine held_one 21 (by kernel_rfl) rfl (by kernel_rfl) (fun K hK => ?_)
          go_simp
          refine hK _ _ ⟨Fwr.out.2.2.1, Fwr.out.2.2.2⟩ ?_
          clear hK K
          try simp only [Act.put, nA, nB, nC, nD, nE, nF]
          refine held_take 22 ?_ rfl (by kernel_rfl) (by kernel_rfl) (by kernel_rfl) (fun _ _ _ h => h) (Or.inl ⟨by kernel_rfl, ?_⟩) ⟨Fwr.out.2.2.1, Fwr.out.2.2.2⟩ ?_
          rotate_left 1
          · intro u hu; go_simp; first | done | with_reducible rfl
          try simp only [Act.put, nA, nB, nC, nD, nE, nF]
          refine wpAnyH_done (by kernel_rfl) ?_ _
          go_wp2_with fail
          exact bodyPost_ret (res48 rfl rfl rfl Fwr.out.1) rfl ⟨rfl, Fwr.out.2.1⟩
    have c1 : (K == 1) = false := by simp [k1]
    have c8 : (K == 8) = false := by simp [k8]
    have c9 : (K == 9) = false := by simp [k9]
    have c4 : (K == 4) = false := by simp [k4]
    have c5 : (K == 5) = false := by simp [k5]
    have c6 : (K == 6) = false := by simp [k6]
    by_cases k7 : K = 7
    · subst k7
      clear c1 c8 c9 c4 c5 c6
      have y4 : w6.cell? ⟨n, 4, none⟩ = some (.string (BT C)) := cell_blk D6.out.ev
      have x4 : w6.cell? ⟨n + 2, 4, none⟩ = some (.string ⟨#[]⟩) := cell_blk D6.out.told
      have z4 : w6.frozen? ⟨n + 2, 4, none⟩ = false := frozen_blk D6.out.told
      obtain ⟨w7, ew7⟩ : ∃ x, w6.setCell ⟨n + 2, 4, none⟩ (.string (BT C)) = x := ⟨_, rfl⟩
      have D7 : Hid (TDoor w w7 n ⟨7, Sl, A, P, C, Sd, Tg, Wd, N⟩ ⟨7, Sl, A, P, C, 0, 0, 0, []⟩) := Lib.hid (by rw [← ew7]; exact D6.out.set 4 (.string (BT C)) rfl)
      have y5 : w7.cell? ⟨n, 5, none⟩ = some (.int .i64 Sd) := cell_blk D7.out.ev
      have x5 : w7.cell? ⟨n + 2, 5, none⟩ = some (.int .i64 (0)) := cell_blk D7.out.told
      have z5 : w7.frozen? ⟨n + 2, 5, none⟩ = false := frozen_blk D7.out.told
      obtain ⟨w8, ew8⟩ : ∃ x, w7.setCell ⟨n + 2, 5, none⟩ (.int .i64 Sd) = x := ⟨_, rfl⟩
      have D8 : Hid (TDoor w w8 n ⟨7, Sl, A, P, C, Sd, Tg, Wd, N⟩ ⟨7, Sl, A, P, C, Sd, 0, 0, []⟩) := Lib.hid (by rw [← ew8]; exact D7.out.set 5 (.int .i64 Sd) rfl)
      go_upto_region 24 with (fail)
      clear ew7 ew8 y4 y5 x4 x5 z4 z5
      go_cut [8] from 145 to 160 (fun v wx => v = .bool (Wh && placeD ⟨7, Sl, A, P, C, Sd, Tg, Wd, N⟩) ∧ TDoor w wx n ⟨7, Sl, A, P, C, Sd, Tg, Wd, N⟩ ⟨7, Sl, A, P, C, Sd, 0, 0, []⟩)
      case first =>
        have hpl : placeD ⟨7, Sl, A, P, C, Sd, Tg, Wd, N⟩ = decide (chanL C = true ∧ (Sd = 0 ∨ Sd = 1)) := rfl
        have HPL := Lib.hid hpl
        obtain ⟨zc, hzc⟩ : ∃ z, chanL C = z := ⟨_, rfl⟩
        have HZC := Lib.hid hzc
        rw [hzc] at GC
        clear hpl hzc
        have y4 : w8.cell? ⟨n, 4, none⟩ = some (.string (BT (C))) := cell_blk D8.out.ev
        have y5 : w8.cell? ⟨n, 5, none⟩ = some (.int .i64 (Sd)) := cell_blk D8.out.ev
        cases Wh with
        | false =>
          go_wp2_with fail
          go_meet
          case rel => exact ⟨by simp, D8.out⟩
        | true =>
          cases zc with
          | false =>
            go_wp2_with fail
            refine (GC.out _).mono ?_
            rintro e x ⟨rfl, t⟩
            have D9 := Lib.hid (D8.out.turn t)
            clear t y4 y5
            go_wp2_with fail
            go_meet
            case rel => exact ⟨by rw [HPL.out, HZC.out]; rfl, D9.out⟩
          | true =>
            go_wp2_with fail
            refine (GC.out _).mono ?_
            rintro e x ⟨rfl, t⟩
            have D9 := Lib.hid (D8.out.turn t)
            clear t y4 y5
            have y5 : x.cell? ⟨n, 5, none⟩ = some (.int .i64 Sd) := cell_blk D9.out.ev
            by_cases s0 : Sd = 0
            · subst s0
              go_wp2_with fail
              go_meet
              case rel => exact ⟨by rw [HPL.out, HZC.out]; rfl, D9.out⟩
            · have s0b : (Sd == 0) = false := by simp [s0]
              by_cases s1 : Sd = 1
              · subst s1
                go_wp2_with fail
                go_meet
                case rel => exact ⟨by rw [HPL.out, HZC.out]; rfl, D9.out⟩
              · have s1b : (Sd == 1) = false := by simp [s1]
                go_wp2_with fail
                go_meet
                case rel => exact ⟨by rw [HPL.out, HZC.out]; simp [s0, s1], D9.out⟩
      case rest =>
        obtain ⟨rfl, d⟩ := hcut
        have D9 := Lib.hid d
        clear d D6 D7 D8
        obtain ⟨w9, hw9⟩ : ∃ x, x = wc := ⟨_, rfl⟩
        subst hw9
        obtain ⟨PW, hPW⟩ : ∃ x, (Wh && placeD ⟨7, Sl, A, P, C, Sd, Tg, Wd, N⟩) = x := ⟨_, rfl⟩
        have HPW := Lib.hid hPW
        rw [hPW]
        clear hPW
        obtain ⟨eT, heT⟩ : ∃ x, endT ⟨7, Sl, A, P, C, Sd, Tg, Wd, N⟩ = x := ⟨_, rfl⟩
        have GE := Lib.hid (end_any2 (E := ⟨7, Sl, A, P, C, Sd, Tg, Wd, N⟩) HS.out.chan)
        have hle : eT.length ≤ 1100002 := by
          rw [← heT]
          unfold endT
          have := LL.out.2.1
          simp
          omega
        have HeT := Lib.hid heT
        rw [heT] at GE
        have hR : ((Hd ++ 32 :: (wClosed ++ 32 :: eT), ⟨7, Sl, A, P, C, Sd, 0, 0, []⟩, PW) : Bs × EventD × Bool) = (R1, R2, R3) := by
          rw [← HHd.out, ← HPW.out, ← HWh.out, ← HeT.out]
          exact HR.out
        simp only [Prod.mk.injEq] at hR
        obtain ⟨rfl, rfl, rfl⟩ := hR
        have lH := LH.out
        have hcat1 : ∀ W, (Op.stringOp .add (BT Hd) ⟨#[32, 99, 108, 111, 115, 101, 100, 32]⟩).run Tryz.prog W = .ok (.string (BT (Hd ++ [32, 99, 108, 111, 115, 101, 100, 32]))) W := fun W => cat_run (b := [32, 99, 108, 111, 115, 101, 100, 32]) (by simp; omega) W
        have hcat2 : ∀ W, (Op.stringOp .add (BT (Hd ++ [32, 99, 108, 111, 115, 101, 100, 32])) (BT eT)).run Tryz.prog W = .ok (.string (BT (Hd ++ 32 :: (wClosed ++ 32 :: eT)))) W := fun W => by
          rw [cat_run (by simp; omega) W]
          simp [wClosed]
        have H2 := Lib.hid hcat2
        clear lH hcat2 heT hle
        unfold evC at GE
        have y0 : w9.cell? ⟨n, 0, none⟩ = some (.int .i64 7) := cell_blk D9.out.ev
        go_upto_region 26 with (fail)
        clear y0
        refine held_begin (fun u => EvAt u n ⟨7, Sl, A, P, C, Sd, Tg, Wd, N⟩ ∧ EvAt u (n + 2) ⟨7, Sl, A, P, C, Sd, 0, 0, []⟩) (by kernel_rfl) ?_
        have D10 := Lib.hid (D9.out.turn (Turn.refl Nn w9).drew)
        generalize World.drew w9 = w10 at D10 ⊢
        refine held_take 0 ?_ rfl (by kernel_rfl) (by kernel_rfl) (by kernel_rfl) (fun _ _ _ h => h) (Or.inl ⟨by kernel_rfl, ?_⟩) ⟨D10.out.ev, D10.out.told⟩ ?_
        rotate_left 1
        · intro u hu; go_simp; first | done | with_reducible rfl
        try simp only [Act.put, nA, nB, nC, nD, nE, nF]
        refine held_take 1 ?_ rfl (by kernel_rfl) (by kernel_rfl) (by kernel_rfl) (fun _ _ _ h => h) (Or.inl ⟨by kernel_rfl, ?_⟩) ⟨D10.out.ev, D10.out.told⟩ ?_
        rotate_left 1
        · intro u hu; go_simp; first | done | with_reducible rfl
        try simp only [Act.put, nA, nB, nC, nD, nE, nF]
        clear hcat1
        refine held_take 2 ?_ rfl (by kernel_rfl) (by kernel_rfl) (by kernel_rfl) (fun _ _ _ h => h) (Or.inl ⟨by kernel_rfl, ?_⟩) ⟨D10.out.ev, D10.out.told⟩ ?_
        rotate_left 1
        · intro u hu; obtain ⟨hu1, hu2⟩ := hu; have y0 : u.cell? ⟨n, 0, none⟩ = some (.int .i64 (7)) := cell_blk hu1; have y1 : u.cell? ⟨n, 1, none⟩ = some (.int .i64 (Sl)) := cell_blk hu1; have y2 : u.cell? ⟨n, 2, none⟩ = some (.string (BT (A))) := cell_blk hu1; have y3 : u.cell? ⟨n, 3, none⟩ = some (.int .i64 (P)) := cell_blk hu1; have y4 : u.cell? ⟨n, 4, none⟩ = some (.string (BT (C))) := cell_blk hu1; have y5 : u.cell? ⟨n, 5, none⟩ = some (.int .i64 (Sd)) := cell_blk hu1; have y6 : u.cell? ⟨n, 6, none⟩ = some (.int .i64 (Tg)) := cell_blk hu1; have y7 : u.cell? ⟨n, 7, none⟩ = some (.int .i64 (Wd)) := cell_blk hu1; have y8 : u.cell? ⟨n, 8, none⟩ = some (.string (BT (N))) := cell_blk hu1; go_simp; first | done | with_reducible rfl
        try simp only [Act.put, nA, nB, nC, nD, nE, nF]
        refine held_take 5 ?_ rfl (by kernel_rfl) (by kernel_rfl) (by kernel_rfl) (fun _ _ _ h => h) (Or.inl ⟨by kernel_rfl, ?_⟩) ⟨D10.out.ev, D10.out.told⟩ ?_
        rotate_left 1
        · intro u hu; obtain ⟨hu1, hu2⟩ := hu; have x0 : u.cell? ⟨n + 2, 0, none⟩ = some (.int .i64 (7)) := cell_blk hu2; have x1 : u.cell? ⟨n + 2, 1, none⟩ = some (.int .i64 (Sl)) := cell_blk hu2; have x2 : u.cell? ⟨n + 2, 2, none⟩ = some (.string (BT (A))) := cell_blk hu2; have x3 : u.cell? ⟨n + 2, 3, none⟩ = some (.int .i64 (P)) := cell_blk hu2; have x4 : u.cell? ⟨n + 2, 4, none⟩ = some (.string (BT (C))) := cell_blk hu2; have x5 : u.cell? ⟨n + 2, 5, none⟩ = some (.int .i64 (Sd)) := cell_blk hu2; have x6 : u.cell? ⟨n + 2, 6, none⟩ = some (.int .i64 (0)) := cell_blk hu2; have x7 : u.cell? ⟨n + 2, 7, none⟩ = some (.int .i64 (0)) := cell_blk hu2; have x8 : u.cell? ⟨n + 2, 8, none⟩ = some (.string ⟨#[]⟩) := cell_blk hu2; go_simp; first | done | with_reducible rfl
        try simp only [Act.put, nA, nB, nC, nD, nE, nF]
        refine held_take 6 ?_ rfl (by kernel_rfl) (by kernel_rfl) (by kernel_rfl) (fun _ _ _ h => h) (Or.inl ⟨by kernel_rfl, ?_⟩) ⟨D10.out.ev, D10.out.told⟩ ?_
        rotate_left 1
        · intro u hu; go_simp; first | done | with_reducible rfl
        try simp only [Act.put, nA, nB, nC, nD, nE, nF]
        refine held_call 3 (by kernel_rfl) rfl (by kernel_rfl) (by first | rfl | go_simp) (GE.out _) ?_ (fun c u h => by cases h.1) (fun u h => by cases h.1)
        rintro v9 w11 ⟨he, t⟩
        cases he
        have D11 := Lib.hid (D10.out.turn t)
        clear t
        refine ⟨⟨D11.out.ev, D11.out.told⟩, ?_⟩
        try simp only [Act.put, nA, nB, nC, nD, nE, nF]
        have hcat2 := H2.out
        refine held_take 4 ?_ rfl (by kernel_rfl) (by kernel_rfl) (by kernel_rfl) (fun _ _ _ h => h) (Or.inl ⟨by kernel_rfl, ?_⟩) ⟨D11.out.ev, D11.out.told⟩ ?_
        rotate_left 1
        · intro u hu; go_simp; first | done | with_reducible rfl
        try simp only [Act.put, nA, nB, nC, nD, nE, nF]
        clear hcat2
        refine held_take 7 ?_ rfl (by kernel_rfl) (by kernel_rfl) (by kernel_rfl) (fun _ _ _ h => h) (Or.inl ⟨by kernel_rfl, ?_⟩) ⟨D11.out.ev, D11.out.told⟩ ?_
        rotate_left 1
        · intro u hu; go_simp; first | done | with_reducible rfl
        try simp only [Act.put, nA, nB, nC, nD, nE, nF]
        have x0 : w11.cell? ⟨n + 1, 0, none⟩ = some (.int .i64 0) := cell_blk D11.out.res
        have x1 : w11.cell? ⟨n + 1, 1, none⟩ = some (.int .i64 0) := cell_blk D11.out.res
        have x2 : w11.cell? ⟨n + 1, 2, none⟩ = some (.string ⟨#[]⟩) := cell_blk D11.out.res
        have x3 : w11.cell? ⟨n + 1, 3, none⟩ = some (.int .i64 0) := cell_blk D11.out.res
        have x4 : w11.cell? ⟨n + 1, 4, none⟩ = some (.string ⟨#[]⟩) := cell_blk D11.out.res
        have x5 : w11.cell? ⟨n + 1, 5, none⟩ = some (.int .i64 0) := cell_blk D11.out.res
        have x6 : w11.cell? ⟨n + 1, 6, none⟩ = some (.int .i64 0) := cell_blk D11.out.res
        have x7 : w11.cell? ⟨n + 1, 7, none⟩ = some (.int .i64 0) := cell_blk D11.out.res
        have x8 : w11.cell? ⟨n + 1, 8, none⟩ = some (.string ⟨#[]⟩) := cell_blk D11.out.res
        have z0 : w11.frozen? ⟨n + 1, 0, none⟩ = false := frozen_blk D11.out.res
        have z1 : w11.frozen? ⟨n + 1, 1, none⟩ = false := frozen_blk D11.out.res
        have z2 : w11.frozen? ⟨n + 1, 2, none⟩ = false := frozen_blk D11.out.res
        have z3 : w11.frozen? ⟨n + 1, 3, none⟩ = false := frozen_blk D11.out.res
        have z4 : w11.frozen? ⟨n + 1, 4, none⟩ = false := frozen_blk D11.out.res
        have z5 : w11.frozen? ⟨n + 1, 5, none⟩ = false := frozen_blk D11.out.res
        have z6 : w11.frozen? ⟨n + 1, 6, none⟩ = false := frozen_blk D11.out.res
        have z7 : w11.frozen? ⟨n + 1, 7, none⟩ = false := frozen_blk D11.out.res
        have z8 : w11.frozen? ⟨n + 1, 8, none⟩ = false := frozen_blk D11.out.res
        obtain ⟨wr, ewr⟩ : ∃ x, set9 w11 (n + 1) ⟨7, Sl, A, P, C, Sd, 0, 0, []⟩ = x := ⟨_, rfl⟩
        have Fwr := Lib.hid (by have h := D11.out.fin ⟨7, Sl, A, P, C, Sd, 0, 0, []⟩; rw [ewr] at h; exact h)
        have fwr : (((((((((w11.setCell ⟨n + 1, 0, none⟩ (.int .i64 (7))).setCell ⟨n + 1, 1, none⟩ (.int .i64 (Sl))).setCell ⟨n + 1, 2, none⟩ (.string (BT (A)))).setCell ⟨n + 1, 3, none⟩ (.int .i64 (P))).setCell ⟨n + 1, 4, none⟩ (.string (BT (C)))).setCell ⟨n + 1, 5, none⟩ (.int .i64 (Sd))).setCell ⟨n + 1, 6, none⟩ (.int .i64 (0))).setCell ⟨n + 1, 7, none⟩ (.int .i64 (0))).setCell ⟨n + 1, 8, none⟩ (.string ⟨#[]⟩)) = wr := ewr
        clear ewr
        refine held_one 8 (by kernel_rfl) rfl (by kernel_rfl) (fun K hK => ?_)
        go_simp
        refine hK _ _ ⟨Fwr.out.2.2.1, Fwr.out.2.2.2⟩ ?_
        clear hK K
        try simp only [Act.put, nA, nB, nC, nD, nE, nF]
        refine held_take 9 ?_ rfl (by kernel_rfl) (by kernel_rfl) (by kernel_rfl) (fun _ _ _ h => h) (Or.inl ⟨by kernel_rfl, ?_⟩) ⟨Fwr.out.2.2.1, Fwr.out.2.2.2⟩ ?_
        rotate_left 1
        · intro u hu; go_simp; first | done | with_reducible rfl
        try simp only [Act.put, nA, nB, nC, nD, nE, nF]
        refine wpAnyH_done (by kernel_rfl) ?_ _
        go_wp2_with fail
        exact bodyPost_ret (res48 rfl rfl rfl Fwr.out.1) rfl ⟨rfl, Fwr.out.2.1⟩
    by_cases k2 : K = 2
    · subst k2
      clear c1 c8 c9 c4 c5 c6
      have y4 : w6.cell? ⟨n, 4, none⟩ = some (.string (BT C)) := cell_blk D6.out.ev
      have x4 : w6.cell? ⟨n + 2, 4, none⟩ = some (.string ⟨#[]⟩) := cell_blk D6.out.told
      have z4 : w6.frozen? ⟨n + 2, 4, none⟩ = false := frozen_blk D6.out.told
      obtain ⟨w7, ew7⟩ : ∃ x, w6.setCell ⟨n + 2, 4, none⟩ (.string (BT C)) = x := ⟨_, rfl⟩
      have D7 : Hid (TDoor w w7 n ⟨2, Sl, A, P, C, Sd, Tg, Wd, N⟩ ⟨2, Sl, A, P, C, 0, 0, 0, []⟩) := Lib.hid (by rw [← ew7]; exact D6.out.set 4 (.string (BT C)) rfl)
      have y5 : w7.cell? ⟨n, 5, none⟩ = some (.int .i64 Sd) := cell_blk D7.out.ev
      have x5 : w7.cell? ⟨n + 2, 5, none⟩ = some (.int .i64 (0)) := cell_blk D7.out.told
      have z5 : w7.frozen? ⟨n + 2, 5, none⟩ = false := frozen_blk D7.out.told
      obtain ⟨w8, ew8⟩ : ∃ x, w7.setCell ⟨n + 2, 5, none⟩ (.int .i64 Sd) = x := ⟨_, rfl⟩
      have D8 : Hid (TDoor w w8 n ⟨2, Sl, A, P, C, Sd, Tg, Wd, N⟩ ⟨2, Sl, A, P, C, Sd, 0, 0, []⟩) := Lib.hid (by rw [← ew8]; exact D7.out.set 5 (.int .i64 Sd) rfl)
      go_upto_region 24 with (fail)
      clear ew7 ew8 y4 y5 x4 x5 z4 z5
      go_cut [8] from 145 to 160 (fun v wx => v = .bool (Wh && placeD ⟨2, Sl, A, P, C, Sd, Tg, Wd, N⟩) ∧ TDoor w wx n ⟨2, Sl, A, P, C, Sd, Tg, Wd, N⟩ ⟨2, Sl, A, P, C, Sd, 0, 0, []⟩)
      case first =>
        have hpl : placeD ⟨2, Sl, A, P, C, Sd, Tg, Wd, N⟩ = decide (chanL C = true ∧ (Sd = 0 ∨ Sd = 1)) := rfl
        have HPL := Lib.hid hpl
        obtain ⟨zc, hzc⟩ : ∃ z, chanL C = z := ⟨_, rfl⟩
        have HZC := Lib.hid hzc
        rw [hzc] at GC
        clear hpl hzc
        have y4 : w8.cell? ⟨n, 4, none⟩ = some (.string (BT (C))) := cell_blk D8.out.ev
        have y5 : w8.cell? ⟨n, 5, none⟩ = some (.int .i64 (Sd)) := cell_blk D8.out.ev
        cases Wh with
        | false =>
          go_wp2_with fail
          go_meet
          case rel => exact ⟨by simp, D8.out⟩
        | true =>
          cases zc with
          | false =>
            go_wp2_with fail
            refine (GC.out _).mono ?_
            rintro e x ⟨rfl, t⟩
            have D9 := Lib.hid (D8.out.turn t)
            clear t y4 y5
            go_wp2_with fail
            go_meet
            case rel => exact ⟨by rw [HPL.out, HZC.out]; rfl, D9.out⟩
          | true =>
            go_wp2_with fail
            refine (GC.out _).mono ?_
            rintro e x ⟨rfl, t⟩
            have D9 := Lib.hid (D8.out.turn t)
            clear t y4 y5
            have y5 : x.cell? ⟨n, 5, none⟩ = some (.int .i64 Sd) := cell_blk D9.out.ev
            by_cases s0 : Sd = 0
            · subst s0
              go_wp2_with fail
              go_meet
              case rel => exact ⟨by rw [HPL.out, HZC.out]; rfl, D9.out⟩
            · have s0b : (Sd == 0) = false := by simp [s0]
              by_cases s1 : Sd = 1
              · subst s1
                go_wp2_with fail
                go_meet
                case rel => exact ⟨by rw [HPL.out, HZC.out]; rfl, D9.out⟩
              · have s1b : (Sd == 1) = false := by simp [s1]
                go_wp2_with fail
                go_meet
                case rel => exact ⟨by rw [HPL.out, HZC.out]; simp [s0, s1], D9.out⟩
      case rest =>
        obtain ⟨rfl, d⟩ := hcut
        have D9 := Lib.hid d
        clear d D6 D7 D8
        obtain ⟨w9, hw9⟩ : ∃ x, x = wc := ⟨_, rfl⟩
        subst hw9
        obtain ⟨PW, hPW⟩ : ∃ x, (Wh && placeD ⟨2, Sl, A, P, C, Sd, Tg, Wd, N⟩) = x := ⟨_, rfl⟩
        have HPW := Lib.hid hPW
        rw [hPW]
        clear hPW
        obtain ⟨eT, heT⟩ : ∃ x, endT ⟨2, Sl, A, P, C, Sd, Tg, Wd, N⟩ = x := ⟨_, rfl⟩
        obtain ⟨mT, hmT⟩ : ∃ x, (msgT ⟨2, Sl, A, P, C, Sd, Tg, Wd, N⟩).1 = x := ⟨_, rfl⟩
        obtain ⟨mB, hmB⟩ : ∃ x, (msgT ⟨2, Sl, A, P, C, Sd, Tg, Wd, N⟩).2 = x := ⟨_, rfl⟩
        have GE := Lib.hid (end_any2 (E := ⟨2, Sl, A, P, C, Sd, Tg, Wd, N⟩) HS.out.chan)
        have GM := Lib.hid (msg_any (E := ⟨2, Sl, A, P, C, Sd, Tg, Wd, N⟩) HS.out.ints.word HS.out.name)
        have hle : eT.length ≤ 1100002 := by
          rw [← heT]
          unfold endT
          have := LL.out.2.1
          simp
          omega
        have hlm : mT.length ≤ 1100100 := by
          rw [← hmT]
          have := LL.out
          unfold msgT
          split
          · simp [wWord]; omega
          split
          · simp [wLabel]; omega
          split
          · simp [wEnd]; omega
          · simp
        have HeT := Lib.hid heT
        have HmT := Lib.hid hmT
        have HmB := Lib.hid hmB
        rw [heT] at GE
        rw [hmT, hmB] at GM
        have lH := LH.out
        have hcat1 : ∀ W, (Op.stringOp .add (BT Hd) ⟨#[32, 115, 101, 110, 116, 32]⟩).run Tryz.prog W = .ok (.string (BT (Hd ++ [32, 115, 101, 110, 116, 32]))) W := fun W => cat_run (b := [32, 115, 101, 110, 116, 32]) (by simp; omega) W
        have hcat2 : ∀ W, (Op.stringOp .add (BT (Hd ++ [32, 115, 101, 110, 116, 32])) (BT eT)).run Tryz.prog W = .ok (.string (BT (Hd ++ [32, 115, 101, 110, 116, 32] ++ eT))) W := fun W => cat_run (by simp; omega) W
        have hcat3 : ∀ W, (Op.stringOp .add (BT (Hd ++ [32, 115, 101, 110, 116, 32] ++ eT)) ⟨#[32]⟩).run Tryz.prog W = .ok (.string (BT (Hd ++ [32, 115, 101, 110, 116, 32] ++ eT ++ [32]))) W := fun W => cat_run (b := [32]) (by simp; omega) W
        have hcat4 : ∀ W, (Op.stringOp .add (BT (Hd ++ [32, 115, 101, 110, 116, 32] ++ eT ++ [32])) (BT mT)).run Tryz.prog W = .ok (.string (BT (Hd ++ 32 :: (wSent ++ 32 :: (eT ++ 32 :: mT))))) W := fun W => by
          rw [cat_run (by simp; omega) W]
          simp [wSent]
        generalize BT (Hd ++ [32, 115, 101, 110, 116, 32] ++ eT ++ [32]) = J3 at hcat3 hcat4
        generalize BT (Hd ++ [32, 115, 101, 110, 116, 32] ++ eT) = J2 at hcat2 hcat3
        generalize BT (Hd ++ [32, 115, 101, 110, 116, 32]) = J1 at hcat1 hcat2
        have H1 := Lib.hid hcat1
        have H2 := Lib.hid hcat2
        have H3 := Lib.hid hcat3
        have H4 := Lib.hid hcat4
        clear lH hcat1 hcat2 hcat3 hcat4 heT hmT hmB hle hlm
        have y0 : w9.cell? ⟨n, 0, none⟩ = some (.int .i64 (2)) := cell_blk D9.out.ev
        have y1 : w9.cell? ⟨n, 1, none⟩ = some (.int .i64 (Sl)) := cell_blk D9.out.ev
        have y2 : w9.cell? ⟨n, 2, none⟩ = some (.string (BT (A))) := cell_blk D9.out.ev
        have y3 : w9.cell? ⟨n, 3, none⟩ = some (.int .i64 (P)) := cell_blk D9.out.ev
        have y4 : w9.cell? ⟨n, 4, none⟩ = some (.string (BT (C))) := cell_blk D9.out.ev
        have y5 : w9.cell? ⟨n, 5, none⟩ = some (.int .i64 (Sd)) := cell_blk D9.out.ev
        have y6 : w9.cell? ⟨n, 6, none⟩ = some (.int .i64 (Tg)) := cell_blk D9.out.ev
        have y7 : w9.cell? ⟨n, 7, none⟩ = some (.int .i64 (Wd)) := cell_blk D9.out.ev
        have y8 : w9.cell? ⟨n, 8, none⟩ = some (.string (BT (N))) := cell_blk D9.out.ev
        unfold evC at GM GE
        go_wp2_with fail
        refine (GM.out _).mono ?_
        rintro e w10 ⟨rfl, t⟩
        have D10 := Lib.hid (D9.out.turn t)
        clear t
        clear y0 y1 y2 y3 y4 y5 y6 y7 y8
        have y6 : w10.cell? ⟨n, 6, none⟩ = some (.int .i64 (Tg)) := cell_blk D10.out.ev
        have x6 : w10.cell? ⟨n + 2, 6, none⟩ = some (.int .i64 (0)) := cell_blk D10.out.told
        have z6 : w10.frozen? ⟨n + 2, 6, none⟩ = false := frozen_blk D10.out.told
        obtain ⟨w11, ew11⟩ : ∃ x, w10.setCell ⟨n + 2, 6, none⟩ (.int .i64 Tg) = x := ⟨_, rfl⟩
        have D11 : Hid (TDoor w w11 n ⟨2, Sl, A, P, C, Sd, Tg, Wd, N⟩ ⟨2, Sl, A, P, C, Sd, Tg, 0, []⟩) := Lib.hid (by rw [← ew11]; exact D10.out.set 6 (.int .i64 Tg) rfl)
        have y7 : w11.cell? ⟨n, 7, none⟩ = some (.int .i64 (Wd)) := cell_blk D11.out.ev
        have x7 : w11.cell? ⟨n + 2, 7, none⟩ = some (.int .i64 (0)) := cell_blk D11.out.told
        have z7 : w11.frozen? ⟨n + 2, 7, none⟩ = false := frozen_blk D11.out.told
        obtain ⟨w12, ew12⟩ : ∃ x, w11.setCell ⟨n + 2, 7, none⟩ (.int .i64 Wd) = x := ⟨_, rfl⟩
        have D12 : Hid (TDoor w w12 n ⟨2, Sl, A, P, C, Sd, Tg, Wd, N⟩ ⟨2, Sl, A, P, C, Sd, Tg, Wd, []⟩) := Lib.hid (by rw [← ew12]; exact D11.out.set 7 (.int .i64 Wd) rfl)
        by_cases t2 : Tg = 2
        · subst t2
          have g6 : w12.cell? ⟨n, 6, none⟩ = some (.int .i64 2) := cell_blk D12.out.ev
          have p7 : w12.cell? ⟨n + 2, 7, none⟩ = some (.int .i64 (Wd)) := cell_blk D12.out.told
          have r7 : w12.frozen? ⟨n + 2, 7, none⟩ = false := frozen_blk D12.out.told
          obtain ⟨w13, ew13⟩ : ∃ x, w12.setCell ⟨n + 2, 7, none⟩ (.int .i64 0) = x := ⟨_, rfl⟩
          have D13 : Hid (TDoor w w13 n ⟨2, Sl, A, P, C, Sd, 2, Wd, N⟩ ⟨2, Sl, A, P, C, Sd, 2, 0, []⟩) := Lib.hid (by rw [← ew13]; exact D12.out.set 7 (.int .i64 0) rfl)
          have g8 : w13.cell? ⟨n, 8, none⟩ = some (.string (BT (N))) := cell_blk D13.out.ev
          have p8 : w13.cell? ⟨n + 2, 8, none⟩ = some (.string ⟨#[]⟩) := cell_blk D13.out.told
          have r8 : w13.frozen? ⟨n + 2, 8, none⟩ = false := frozen_blk D13.out.told
          obtain ⟨w14, ew14⟩ : ∃ x, w13.setCell ⟨n + 2, 8, none⟩ (.string (BT N)) = x := ⟨_, rfl⟩
          have D14 : Hid (TDoor w w14 n ⟨2, Sl, A, P, C, Sd, 2, Wd, N⟩ ⟨2, Sl, A, P, C, Sd, 2, 0, N⟩) := Lib.hid (by rw [← ew14]; exact D13.out.set 8 (.string (BT N)) rfl)
          have hR : ((Hd ++ 32 :: (wSent ++ 32 :: (eT ++ 32 :: mT)), ⟨2, Sl, A, P, C, Sd, 2, 0, N⟩, (PW && mB)) : Bs × EventD × Bool) = (R1, R2, R3) := by
            rw [← HHd.out, ← HPW.out, ← HWh.out, ← HeT.out, ← HmT.out, ← HmB.out]
            exact HR.out
          simp only [Prod.mk.injEq] at hR
          obtain ⟨rfl, rfl, rfl⟩ := hR
          have g0 : w14.cell? ⟨n, 0, none⟩ = some (.int .i64 2) := cell_blk D14.out.ev
          go_upto_region 38 with (fail)
          clear g0 g6 ew11 ew12 y6 y7 x6 x7 z6 z7 ew13 ew14 p7 r7 g8 p8 r8
          refine held_begin (fun u => EvAt u n ⟨2, Sl, A, P, C, Sd, 2, Wd, N⟩ ∧ EvAt u (n + 2) ⟨2, Sl, A, P, C, Sd, 2, 0, N⟩) (by kernel_rfl) ?_
          have D20 := Lib.hid (D14.out.turn (Turn.refl Nn w14).drew)
          generalize World.drew w14 = w20 at D20 ⊢
          have hcat1 := H1.out
          have hcat2 := H2.out
          have hcat3 := H3.out
          have hcat4 := H4.out
          refine held_take 0 ?_ rfl (by kernel_rfl) (by kernel_rfl) (by kernel_rfl) (fun _ _ _ h => h) (Or.inl ⟨by kernel_rfl, ?_⟩) ⟨D20.out.ev, D20.out.told⟩ ?_
          rotate_left 1
          · intro u hu; go_simp; first | done | with_reducible rfl
          try simp only [Act.put, nA, nB, nC, nD, nE, nF]
          refine held_take 1 ?_ rfl (by kernel_rfl) (by kernel_rfl) (by kernel_rfl) (fun _ _ _ h => h) (Or.inl ⟨by kernel_rfl, ?_⟩) ⟨D20.out.ev, D20.out.told⟩ ?_
          rotate_left 1
          · intro u hu; go_simp; first | done | with_reducible rfl
          try simp only [Act.put, nA, nB, nC, nD, nE, nF]
          refine held_take 2 ?_ rfl (by kernel_rfl) (by kernel_rfl) (by kernel_rfl) (fun _ _ _ h => h) (Or.inl ⟨by kernel_rfl, ?_⟩) ⟨D20.out.ev, D20.out.told⟩ ?_
          rotate_left 1
          · intro u hu; go_simp; first | done | with_reducible rfl
          try simp only [Act.put, nA, nB, nC, nD, nE, nF]
          refine held_take 3 ?_ rfl (by kernel_rfl) (by kernel_rfl) (by kernel_rfl) (fun _ _ _ h => h) (Or.inl ⟨by kernel_rfl, ?_⟩) ⟨D20.out.ev, D20.out.told⟩ ?_
          rotate_left 1
          · intro u hu; obtain ⟨hu1, hu2⟩ := hu; have y0 : u.cell? ⟨n, 0, none⟩ = some (.int .i64 (2)) := cell_blk hu1; have y1 : u.cell? ⟨n, 1, none⟩ = some (.int .i64 (Sl)) := cell_blk hu1; have y2 : u.cell? ⟨n, 2, none⟩ = some (.string (BT (A))) := cell_blk hu1; have y3 : u.cell? ⟨n, 3, none⟩ = some (.int .i64 (P)) := cell_blk hu1; have y4 : u.cell? ⟨n, 4, none⟩ = some (.string (BT (C))) := cell_blk hu1; have y5 : u.cell? ⟨n, 5, none⟩ = some (.int .i64 (Sd)) := cell_blk hu1; have y6 : u.cell? ⟨n, 6, none⟩ = some (.int .i64 (2)) := cell_blk hu1; have y7 : u.cell? ⟨n, 7, none⟩ = some (.int .i64 (Wd)) := cell_blk hu1; have y8 : u.cell? ⟨n, 8, none⟩ = some (.string (BT (N))) := cell_blk hu1; go_simp; first | done | with_reducible rfl
          try simp only [Act.put, nA, nB, nC, nD, nE, nF]
          refine held_take 7 ?_ rfl (by kernel_rfl) (by kernel_rfl) (by kernel_rfl) (fun _ _ _ h => h) (Or.inl ⟨by kernel_rfl, ?_⟩) ⟨D20.out.ev, D20.out.told⟩ ?_
          rotate_left 1
          · intro u hu; go_simp; first | done | with_reducible rfl
          try simp only [Act.put, nA, nB, nC, nD, nE, nF]
          refine held_take 9 ?_ rfl (by kernel_rfl) (by kernel_rfl) (by kernel_rfl) (fun _ _ _ h => h) (Or.inl ⟨by kernel_rfl, ?_⟩) ⟨D20.out.ev, D20.out.told⟩ ?_
          rotate_left 1
          · intro u hu; obtain ⟨hu1, hu2⟩ := hu; have x0 : u.cell? ⟨n + 2, 0, none⟩ = some (.int .i64 (2)) := cell_blk hu2; have x1 : u.cell? ⟨n + 2, 1, none⟩ = some (.int .i64 (Sl)) := cell_blk hu2; have x2 : u.cell? ⟨n + 2, 2, none⟩ = some (.string (BT (A))) := cell_blk hu2; have x3 : u.cell? ⟨n + 2, 3, none⟩ = some (.int .i64 (P)) := cell_blk hu2; have x4 : u.cell? ⟨n + 2, 4, none⟩ = some (.string (BT (C))) := cell_blk hu2; have x5 : u.cell? ⟨n + 2, 5, none⟩ = some (.int .i64 (Sd)) := cell_blk hu2; have x6 : u.cell? ⟨n + 2, 6, none⟩ = some (.int .i64 (2)) := cell_blk hu2; have x7 : u.cell? ⟨n + 2, 7, none⟩ = some (.int .i64 (0)) := cell_blk hu2; have x8 : u.cell? ⟨n + 2, 8, none⟩ = some (.string (BT (N))) := cell_blk hu2; go_simp; first | done | with_reducible rfl
          try simp only [Act.put, nA, nB, nC, nD, nE, nF]
          refine held_take 10 ?_ rfl (by kernel_rfl) (by kernel_rfl) (by kernel_rfl) (fun _ _ _ h => h) (Or.inl ⟨by kernel_rfl, ?_⟩) ⟨D20.out.ev, D20.out.told⟩ ?_
          rotate_left 1
          · intro u hu; go_simp; first | done | with_reducible rfl
          try simp only [Act.put, nA, nB, nC, nD, nE, nF]
          refine held_call 4 (by kernel_rfl) rfl (by kernel_rfl) (by first | rfl | go_simp) (GE.out _) ?_ (fun c u h => by cases h.1) (fun u h => by cases h.1)
          rintro v9 w21 ⟨he, t⟩
          cases he
          have D21 := Lib.hid (D20.out.turn t)
          clear t
          refine ⟨⟨D21.out.ev, D21.out.told⟩, ?_⟩
          try simp only [Act.put, nA, nB, nC, nD, nE, nF]
          refine held_take 5 ?_ rfl (by kernel_rfl) (by kernel_rfl) (by kernel_rfl) (fun _ _ _ h => h) (Or.inl ⟨by kernel_rfl, ?_⟩) ⟨D21.out.ev, D21.out.told⟩ ?_
          rotate_left 1
          · intro u hu; go_simp; first | done | with_reducible rfl
          try simp only [Act.put, nA, nB, nC, nD, nE, nF]
          refine held_take 6 ?_ rfl (by kernel_rfl) (by kernel_rfl) (by kernel_rfl) (fun _ _ _ h => h) (Or.inl ⟨by kernel_rfl, ?_⟩) ⟨D21.out.ev, D21.out.told⟩ ?_
          rotate_left 1
          · intro u hu; go_simp; first | done | with_reducible rfl
          try simp only [Act.put, nA, nB, nC, nD, nE, nF]
          refine held_take 8 ?_ rfl (by kernel_rfl) (by kernel_rfl) (by kernel_rfl) (fun _ _ _ h => h) (Or.inl ⟨by kernel_rfl, ?_⟩) ⟨D21.out.ev, D21.out.told⟩ ?_
          rotate_left 1
          · intro u hu; go_simp; first | done | with_reducible rfl
          try simp only [Act.put, nA, nB, nC, nD, nE, nF]
          clear hcat1 hcat2 hcat3 hcat4
          cases PW with
          | false =>
            refine held_take 11 (.bool false) rfl (by kernel_rfl) (by kernel_rfl) (by kernel_rfl) (fun _ _ _ h => h) (Or.inl ⟨by kernel_rfl, ?_⟩) ⟨D21.out.ev, D21.out.told⟩ ?_
            · intro u hu; kernel_rfl
            try simp only [Act.put, nA, nB, nC, nD, nE, nF]
            refine held_take 12 undef rfl (by kernel_rfl) (by kernel_rfl) (by kernel_rfl) (fun _ _ _ h => h) (Or.inr ⟨by kernel_rfl, rfl⟩) ⟨D21.out.ev, D21.out.told⟩ ?_
            try simp only [Act.put, nA, nB, nC, nD, nE, nF]
            refine held_take 13 (.bool false) rfl (by kernel_rfl) (by kernel_rfl) (by kernel_rfl) (fun _ _ _ h => h) (Or.inl ⟨by kernel_rfl, ?_⟩) ⟨D21.out.ev, D21.out.told⟩ ?_
            · intro u hu; kernel_rfl
            try simp only [Act.put, nA, nB, nC, nD, nE, nF]
            refine held_take 14 ?_ rfl (by kernel_rfl) (by kernel_rfl) (by kernel_rfl) (fun _ _ _ h => h) (Or.inl ⟨by kernel_rfl, ?_⟩) ⟨D21.out.ev, D21.out.told⟩ ?_
            rotate_left 1
            · intro u hu; go_simp; first | done | with_reducible rfl
            try simp only [Act.put, nA, nB, nC, nD, nE, nF]
            have x0 : w21.cell? ⟨n + 1, 0, none⟩ = some (.int .i64 0) := cell_blk D21.out.res
            have x1 : w21.cell? ⟨n + 1, 1, none⟩ = some (.int .i64 0) := cell_blk D21.out.res
            have x2 : w21.cell? ⟨n + 1, 2, none⟩ = some (.string ⟨#[]⟩) := cell_blk D21.out.res
            have x3 : w21.cell? ⟨n + 1, 3, none⟩ = some (.int .i64 0) := cell_blk D21.out.res
            have x4 : w21.cell? ⟨n + 1, 4, none⟩ = some (.string ⟨#[]⟩) := cell_blk D21.out.res
            have x5 : w21.cell? ⟨n + 1, 5, none⟩ = some (.int .i64 0) := cell_blk D21.out.res
            have x6 : w21.cell? ⟨n + 1, 6, none⟩ = some (.int .i64 0) := cell_blk D21.out.res
            have x7 : w21.cell? ⟨n + 1, 7, none⟩ = some (.int .i64 0) := cell_blk D21.out.res
            have x8 : w21.cell? ⟨n + 1, 8, none⟩ = some (.string ⟨#[]⟩) := cell_blk D21.out.res
            have z0 : w21.frozen? ⟨n + 1, 0, none⟩ = false := frozen_blk D21.out.res
            have z1 : w21.frozen? ⟨n + 1, 1, none⟩ = false := frozen_blk D21.out.res
            have z2 : w21.frozen? ⟨n + 1, 2, none⟩ = false := frozen_blk D21.out.res
            have z3 : w21.frozen? ⟨n + 1, 3, none⟩ = false := frozen_blk D21.out.res
            have z4 : w21.frozen? ⟨n + 1, 4, none⟩ = false := frozen_blk D21.out.res
            have z5 : w21.frozen? ⟨n + 1, 5, none⟩ = false := frozen_blk D21.out.res
            have z6 : w21.frozen? ⟨n + 1, 6, none⟩ = false := frozen_blk D21.out.res
            have z7 : w21.frozen? ⟨n + 1, 7, none⟩ = false := frozen_blk D21.out.res
            have z8 : w21.frozen? ⟨n + 1, 8, none⟩ = false := frozen_blk D21.out.res
            obtain ⟨wr, ewr⟩ : ∃ x, set9 w21 (n + 1) ⟨2, Sl, A, P, C, Sd, 2, 0, N⟩ = x := ⟨_, rfl⟩
            have Fwr : Hid (EvAt wr (n + 1) ⟨2, Sl, A, P, C, Sd, 2, 0, N⟩ ∧ Turn Nn w wr ∧ EvAt wr n ⟨2, Sl, A, P, C, Sd, 2, Wd, N⟩ ∧ EvAt wr (n + 2) ⟨2, Sl, A, P, C, Sd, 2, 0, N⟩) := Lib.hid (by rw [← ewr]; exact TDoor.fin D21.out ⟨2, Sl, A, P, C, Sd, 2, 0, N⟩)
            have fwr : (((((((((w21.setCell ⟨n + 1, 0, none⟩ (.int .i64 (2))).setCell ⟨n + 1, 1, none⟩ (.int .i64 (Sl))).setCell ⟨n + 1, 2, none⟩ (.string (BT (A)))).setCell ⟨n + 1, 3, none⟩ (.int .i64 (P))).setCell ⟨n + 1, 4, none⟩ (.string (BT (C)))).setCell ⟨n + 1, 5, none⟩ (.int .i64 (Sd))).setCell ⟨n + 1, 6, none⟩ (.int .i64 (2))).setCell ⟨n + 1, 7, none⟩ (.int .i64 (0))).setCell ⟨n + 1, 8, none⟩ (.string (BT (N)))) = wr := ewr
            clear ewr
            refine held_one 15 (by kernel_rfl) rfl (by kernel_rfl) (fun K hK => ?_)
            go_simp
            refine hK _ _ ⟨Fwr.out.2.2.1, Fwr.out.2.2.2⟩ ?_
            clear hK K
            try simp only [Act.put, nA, nB, nC, nD, nE, nF]
            refine held_take 16 ?_ rfl (by kernel_rfl) (by kernel_rfl) (by kernel_rfl) (fun _ _ _ h => h) (Or.inl ⟨by kernel_rfl, ?_⟩) ⟨Fwr.out.2.2.1, Fwr.out.2.2.2⟩ ?_
            rotate_left 1
            · intro u hu; go_simp; first | done | with_reducible rfl
            try simp only [Act.put, nA, nB, nC, nD, nE, nF]
            refine wpAnyH_done (by kernel_rfl) ?_ _
            go_wp2_with fail
            exact bodyPost_ret (res48 rfl rfl rfl Fwr.out.1) rfl ⟨rfl, Fwr.out.2.1⟩
          | true =>
            refine held_take 11 (.bool true) rfl (by kernel_rfl) (by kernel_rfl) (by kernel_rfl) (fun _ _ _ h => h) (Or.inl ⟨by kernel_rfl, ?_⟩) ⟨D21.out.ev, D21.out.told⟩ ?_
            · intro u hu; kernel_rfl
            try simp only [Act.put, nA, nB, nC, nD, nE, nF]
            refine held_take 12 (.bool mB) rfl (by kernel_rfl) (by kernel_rfl) (by kernel_rfl) (fun _ _ _ h => h) (Or.inl ⟨by kernel_rfl, ?_⟩) ⟨D21.out.ev, D21.out.told⟩ ?_
            · intro u hu; kernel_rfl
            try simp only [Act.put, nA, nB, nC, nD, nE, nF]
            refine held_take 13 (.bool mB) rfl (by kernel_rfl) (by kernel_rfl) (by kernel_rfl) (fun _ _ _ h => h) (Or.inl ⟨by kernel_rfl, ?_⟩) ⟨D21.out.ev, D21.out.told⟩ ?_
            · intro u hu; kernel_rfl
            try simp only [Act.put, nA, nB, nC, nD, nE, nF]
            refine held_take 14 ?_ rfl (by kernel_rfl) (by kernel_rfl) (by kernel_rfl) (fun _ _ _ h => h) (Or.inl ⟨by kernel_rfl, ?_⟩) ⟨D21.out.ev, D21.out.told⟩ ?_
            rotate_left 1
            · intro u hu; go_simp; first | done | with_reducible rfl
            try simp only [Act.put, nA, nB, nC, nD, nE, nF]
            have x0 : w21.cell? ⟨n + 1, 0, none⟩ = some (.int .i64 0) := cell_blk D21.out.res
            have x1 : w21.cell? ⟨n + 1, 1, none⟩ = some (.int .i64 0) := cell_blk D21.out.res
            have x2 : w21.cell? ⟨n + 1, 2, none⟩ = some (.string ⟨#[]⟩) := cell_blk D21.out.res
            have x3 : w21.cell? ⟨n + 1, 3, none⟩ = some (.int .i64 0) := cell_blk D21.out.res
            have x4 : w21.cell? ⟨n + 1, 4, none⟩ = some (.string ⟨#[]⟩) := cell_blk D21.out.res
            have x5 : w21.cell? ⟨n + 1, 5, none⟩ = some (.int .i64 0) := cell_blk D21.out.res
            have x6 : w21.cell? ⟨n + 1, 6, none⟩ = some (.int .i64 0) := cell_blk D21.out.res
            have x7 : w21.cell? ⟨n + 1, 7, none⟩ = some (.int .i64 0) := cell_blk D21.out.res
            have x8 : w21.cell? ⟨n + 1, 8, none⟩ = some (.string ⟨#[]⟩) := cell_blk D21.out.res
            have z0 : w21.frozen? ⟨n + 1, 0, none⟩ = false := frozen_blk D21.out.res
            have z1 : w21.frozen? ⟨n + 1, 1, none⟩ = false := frozen_blk D21.out.res
            have z2 : w21.frozen? ⟨n + 1, 2, none⟩ = false := frozen_blk D21.out.res
            have z3 : w21.frozen? ⟨n + 1, 3, none⟩ = false := frozen_blk D21.out.res
            have z4 : w21.frozen? ⟨n + 1, 4, none⟩ = false := frozen_blk D21.out.res
            have z5 : w21.frozen? ⟨n + 1, 5, none⟩ = false := frozen_blk D21.out.res
            have z6 : w21.frozen? ⟨n + 1, 6, none⟩ = false := frozen_blk D21.out.res
            have z7 : w21.frozen? ⟨n + 1, 7, none⟩ = false := frozen_blk D21.out.res
            have z8 : w21.frozen? ⟨n + 1, 8, none⟩ = false := frozen_blk D21.out.res
            obtain ⟨wr, ewr⟩ : ∃ x, set9 w21 (n + 1) ⟨2, Sl, A, P, C, Sd, 2, 0, N⟩ = x := ⟨_, rfl⟩
            have Fwr : Hid (EvAt wr (n + 1) ⟨2, Sl, A, P, C, Sd, 2, 0, N⟩ ∧ Turn Nn w wr ∧ EvAt wr n ⟨2, Sl, A, P, C, Sd, 2, Wd, N⟩ ∧ EvAt wr (n + 2) ⟨2, Sl, A, P, C, Sd, 2, 0, N⟩) := Lib.hid (by rw [← ewr]; exact TDoor.fin D21.out ⟨2, Sl, A, P, C, Sd, 2, 0, N⟩)
            have fwr : (((((((((w21.setCell ⟨n + 1, 0, none⟩ (.int .i64 (2))).setCell ⟨n + 1, 1, none⟩ (.int .i64 (Sl))).setCell ⟨n + 1, 2, none⟩ (.string (BT (A)))).setCell ⟨n + 1, 3, none⟩ (.int .i64 (P))).setCell ⟨n + 1, 4, none⟩ (.string (BT (C)))).setCell ⟨n + 1, 5, none⟩ (.int .i64 (Sd))).setCell ⟨n + 1, 6, none⟩ (.int .i64 (2))).setCell ⟨n + 1, 7, none⟩ (.int .i64 (0))).setCell ⟨n + 1, 8, none⟩ (.string (BT (N)))) = wr := ewr
            clear ewr
            refine held_one 15 (by kernel_rfl) rfl (by kernel_rfl) (fun K hK => ?_)
            go_simp
            refine hK _ _ ⟨Fwr.out.2.2.1, Fwr.out.2.2.2⟩ ?_
            clear hK K
            try simp only [Act.put, nA, nB, nC, nD, nE, nF]
            refine held_take 16 ?_ rfl (by kernel_rfl) (by kernel_rfl) (by kernel_rfl) (fun _ _ _ h => h) (Or.inl ⟨by kernel_rfl, ?_⟩) ⟨Fwr.out.2.2.1, Fwr.out.2.2.2⟩ ?_
            rotate_left 1
            · intro u hu; go_simp; first | done | with_reducible rfl
            try simp only [Act.put, nA, nB, nC, nD, nE, nF]
            refine wpAnyH_done (by kernel_rfl) ?_ _
            go_wp2_with fail
            exact bodyPost_ret (res48 rfl rfl rfl Fwr.out.1) rfl ⟨rfl, Fwr.out.2.1⟩
        · have t2b : (Tg == 2) = false := by simp [t2]
          have g6 : w12.cell? ⟨n, 6, none⟩ = some (.int .i64 Tg) := cell_blk D12.out.ev
          have hR : ((Hd ++ 32 :: (wSent ++ 32 :: (eT ++ 32 :: mT)), ⟨2, Sl, A, P, C, Sd, Tg, Wd, []⟩, (PW && mB)) : Bs × EventD × Bool) = (R1, R2, R3) := by
            rw [← HHd.out, ← HPW.out, ← HWh.out, ← HeT.out, ← HmT.out, ← HmB.out]
            have hr := HR.out
            have ht : told2 ⟨2, Sl, A, P, C, Sd, Tg, Wd, N⟩ = ⟨2, Sl, A, P, C, Sd, Tg, Wd, []⟩ := if_neg t2
            rw [← ht]
            exact hr
          simp only [Prod.mk.injEq] at hR
          obtain ⟨rfl, rfl, rfl⟩ := hR
          have g0 : w12.cell? ⟨n, 0, none⟩ = some (.int .i64 2) := cell_blk D12.out.ev
          go_upto_region 38 with (fail)
          clear g0 g6 ew11 ew12 y6 y7 x6 x7 z6 z7 t2b
          refine held_begin (fun u => EvAt u n ⟨2, Sl, A, P, C, Sd, Tg, Wd, N⟩ ∧ EvAt u (n + 2) ⟨2, Sl, A, P, C, Sd, Tg, Wd, []⟩) (by kernel_rfl) ?_
          have D20 := Lib.hid (D12.out.turn (Turn.refl Nn w12).drew)
          generalize World.drew w12 = w20 at D20 ⊢
          have hcat1 := H1.out
          have hcat2 := H2.out
          have hcat3 := H3.out
          have hcat4 := H4.out
          refine held_take 0 ?_ rfl (by kernel_rfl) (by kernel_rfl) (by kernel_rfl) (fun _ _ _ h => h) (Or.inl ⟨by kernel_rfl, ?_⟩) ⟨D20.out.ev, D20.out.told⟩ ?_
          rotate_left 1
          · intro u hu; go_simp; first | done | with_reducible rfl
          try simp only [Act.put, nA, nB, nC, nD, nE, nF]
          refine held_take 1 ?_ rfl (by kernel_rfl) (by kernel_rfl) (by kernel_rfl) (fun _ _ _ h => h) (Or.inl ⟨by kernel_rfl, ?_⟩) ⟨D20.out.ev, D20.out.told⟩ ?_
          rotate_left 1
          · intro u hu; go_simp; first | done | with_reducible rfl
          try simp only [Act.put, nA, nB, nC, nD, nE, nF]
          refine held_take 2 ?_ rfl (by kernel_rfl) (by kernel_rfl) (by kernel_rfl) (fun _ _ _ h => h) (Or.inl ⟨by kernel_rfl, ?_⟩) ⟨D20.out.ev, D20.out.told⟩ ?_
          rotate_left 1
          · intro u hu; go_simp; first | done | with_reducible rfl
          try simp only [Act.put, nA, nB, nC, nD, nE, nF]
          refine held_take 3 ?_ rfl (by kernel_rfl) (by kernel_rfl) (by kernel_rfl) (fun _ _ _ h => h) (Or.inl ⟨by kernel_rfl, ?_⟩) ⟨D20.out.ev, D20.out.told⟩ ?_
          rotate_left 1
          · intro u hu; obtain ⟨hu1, hu2⟩ := hu; have y0 : u.cell? ⟨n, 0, none⟩ = some (.int .i64 (2)) := cell_blk hu1; have y1 : u.cell? ⟨n, 1, none⟩ = some (.int .i64 (Sl)) := cell_blk hu1; have y2 : u.cell? ⟨n, 2, none⟩ = some (.string (BT (A))) := cell_blk hu1; have y3 : u.cell? ⟨n, 3, none⟩ = some (.int .i64 (P)) := cell_blk hu1; have y4 : u.cell? ⟨n, 4, none⟩ = some (.string (BT (C))) := cell_blk hu1; have y5 : u.cell? ⟨n, 5, none⟩ = some (.int .i64 (Sd)) := cell_blk hu1; have y6 : u.cell? ⟨n, 6, none⟩ = some (.int .i64 (Tg)) := cell_blk hu1; have y7 : u.cell? ⟨n, 7, none⟩ = some (.int .i64 (Wd)) := cell_blk hu1; have y8 : u.cell? ⟨n, 8, none⟩ = some (.string (BT (N))) := cell_blk hu1; go_simp; first | done | with_reducible rfl
          try simp only [Act.put, nA, nB, nC, nD, nE, nF]
          refine held_take 7 ?_ rfl (by kernel_rfl) (by kernel_rfl) (by kernel_rfl) (fun _ _ _ h => h) (Or.inl ⟨by kernel_rfl, ?_⟩) ⟨D20.out.ev, D20.out.told⟩ ?_
          rotate_left 1
          · intro u hu; go_simp; first | done | with_reducible rfl
          try simp only [Act.put, nA, nB, nC, nD, nE, nF]
          refine held_take 9 ?_ rfl (by kernel_rfl) (by kernel_rfl) (by kernel_rfl) (fun _ _ _ h => h) (Or.inl ⟨by kernel_rfl, ?_⟩) ⟨D20.out.ev, D20.out.told⟩ ?_
          rotate_left 1
          · intro u hu; obtain ⟨hu1, hu2⟩ := hu; have x0 : u.cell? ⟨n + 2, 0, none⟩ = some (.int .i64 (2)) := cell_blk hu2; have x1 : u.cell? ⟨n + 2, 1, none⟩ = some (.int .i64 (Sl)) := cell_blk hu2; have x2 : u.cell? ⟨n + 2, 2, none⟩ = some (.string (BT (A))) := cell_blk hu2; have x3 : u.cell? ⟨n + 2, 3, none⟩ = some (.int .i64 (P)) := cell_blk hu2; have x4 : u.cell? ⟨n + 2, 4, none⟩ = some (.string (BT (C))) := cell_blk hu2; have x5 : u.cell? ⟨n + 2, 5, none⟩ = some (.int .i64 (Sd)) := cell_blk hu2; have x6 : u.cell? ⟨n + 2, 6, none⟩ = some (.int .i64 (Tg)) := cell_blk hu2; have x7 : u.cell? ⟨n + 2, 7, none⟩ = some (.int .i64 (Wd)) := cell_blk hu2; have x8 : u.cell? ⟨n + 2, 8, none⟩ = some (.string ⟨#[]⟩) := cell_blk hu2; go_simp; first | done | with_reducible rfl
          try simp only [Act.put, nA, nB, nC, nD, nE, nF]
          refine held_take 10 ?_ rfl (by kernel_rfl) (by kernel_rfl) (by kernel_rfl) (fun _ _ _ h => h) (Or.inl ⟨by kernel_rfl, ?_⟩) ⟨D20.out.ev, D20.out.told⟩ ?_
          rotate_left 1
          · intro u hu; go_simp; first | done | with_reducible rfl
          try simp only [Act.put, nA, nB, nC, nD, nE, nF]
          refine held_call 4 (by kernel_rfl) rfl (by kernel_rfl) (by first | rfl | go_simp) (GE.out _) ?_ (fun c u h => by cases h.1) (fun u h => by cases h.1)
          rintro v9 w21 ⟨he, t⟩
          cases he
          have D21 := Lib.hid (D20.out.turn t)
          clear t
          refine ⟨⟨D21.out.ev, D21.out.told⟩, ?_⟩
          try simp only [Act.put, nA, nB, nC, nD, nE, nF]
          refine held_take 5 ?_ rfl (by kernel_rfl) (by kernel_rfl) (by kernel_rfl) (fun _ _ _ h => h) (Or.inl ⟨by kernel_rfl, ?_⟩) ⟨D21.out.ev, D21.out.told⟩ ?_
          rotate_left 1
          · intro u hu; go_simp; first | done | with_reducible rfl
          try simp only [Act.put, nA, nB, nC, nD, nE, nF]
          refine held_take 6 ?_ rfl (by kernel_rfl) (by kernel_rfl) (by kernel_rfl) (fun _ _ _ h => h) (Or.inl ⟨by kernel_rfl, ?_⟩) ⟨D21.out.ev, D21.out.told⟩ ?_
          rotate_left 1
          · intro u hu; go_simp; first | done | with_reducible rfl
          try simp only [Act.put, nA, nB, nC, nD, nE, nF]
          refine held_take 8 ?_ rfl (by kernel_rfl) (by kernel_rfl) (by kernel_rfl) (fun _ _ _ h => h) (Or.inl ⟨by kernel_rfl, ?_⟩) ⟨D21.out.ev, D21.out.told⟩ ?_
          rotate_left 1
          · intro u hu; go_simp; first | done | with_reducible rfl
          try simp only [Act.put, nA, nB, nC, nD, nE, nF]
          clear hcat1 hcat2 hcat3 hcat4
          cases PW with
          | false =>
            refine held_take 11 (.bool false) rfl (by kernel_rfl) (by kernel_rfl) (by kernel_rfl) (fun _ _ _ h => h) (Or.inl ⟨by kernel_rfl, ?_⟩) ⟨D21.out.ev, D21.out.told⟩ ?_
            · intro u hu; kernel_rfl
            try simp only [Act.put, nA, nB, nC, nD, nE, nF]
            refine held_take 12 undef rfl (by kernel_rfl) (by kernel_rfl) (by kernel_rfl) (fun _ _ _ h => h) (Or.inr ⟨by kernel_rfl, rfl⟩) ⟨D21.out.ev, D21.out.told⟩ ?_
            try simp only [Act.put, nA, nB, nC, nD, nE, nF]
            refine held_take 13 (.bool false) rfl (by kernel_rfl) (by kernel_rfl) (by kernel_rfl) (fun _ _ _ h => h) (Or.inl ⟨by kernel_rfl, ?_⟩) ⟨D21.out.ev, D21.out.told⟩ ?_
            · intro u hu; kernel_rfl
            try simp only [Act.put, nA, nB, nC, nD, nE, nF]
            refine held_take 14 ?_ rfl (by kernel_rfl) (by kernel_rfl) (by kernel_rfl) (fun _ _ _ h => h) (Or.inl ⟨by kernel_rfl, ?_⟩) ⟨D21.out.ev, D21.out.told⟩ ?_
            rotate_left 1
            · intro u hu; go_simp; first | done | with_reducible rfl
            try simp only [Act.put, nA, nB, nC, nD, nE, nF]
            have x0 : w21.cell? ⟨n + 1, 0, none⟩ = some (.int .i64 0) := cell_blk D21.out.res
            have x1 : w21.cell? ⟨n + 1, 1, none⟩ = some (.int .i64 0) := cell_blk D21.out.res
            have x2 : w21.cell? ⟨n + 1, 2, none⟩ = some (.string ⟨#[]⟩) := cell_blk D21.out.res
            have x3 : w21.cell? ⟨n + 1, 3, none⟩ = some (.int .i64 0) := cell_blk D21.out.res
            have x4 : w21.cell? ⟨n + 1, 4, none⟩ = some (.string ⟨#[]⟩) := cell_blk D21.out.res
            have x5 : w21.cell? ⟨n + 1, 5, none⟩ = some (.int .i64 0) := cell_blk D21.out.res
            have x6 : w21.cell? ⟨n + 1, 6, none⟩ = some (.int .i64 0) := cell_blk D21.out.res
            have x7 : w21.cell? ⟨n + 1, 7, none⟩ = some (.int .i64 0) := cell_blk D21.out.res
            have x8 : w21.cell? ⟨n + 1, 8, none⟩ = some (.string ⟨#[]⟩) := cell_blk D21.out.res
            have z0 : w21.frozen? ⟨n + 1, 0, none⟩ = false := frozen_blk D21.out.res
            have z1 : w21.frozen? ⟨n + 1, 1, none⟩ = false := frozen_blk D21.out.res
            have z2 : w21.frozen? ⟨n + 1, 2, none⟩ = false := frozen_blk D21.out.res
            have z3 : w21.frozen? ⟨n + 1, 3, none⟩ = false := frozen_blk D21.out.res
            have z4 : w21.frozen? ⟨n + 1, 4, none⟩ = false := frozen_blk D21.out.res
            have z5 : w21.frozen? ⟨n + 1, 5, none⟩ = false := frozen_blk D21.out.res
            have z6 : w21.frozen? ⟨n + 1, 6, none⟩ = false := frozen_blk D21.out.res
            have z7 : w21.frozen? ⟨n + 1, 7, none⟩ = false := frozen_blk D21.out.res
            have z8 : w21.frozen? ⟨n + 1, 8, none⟩ = false := frozen_blk D21.out.res
            obtain ⟨wr, ewr⟩ : ∃ x, set9 w21 (n + 1) ⟨2, Sl, A, P, C, Sd, Tg, Wd, []⟩ = x := ⟨_, rfl⟩
            have Fwr : Hid (EvAt wr (n + 1) ⟨2, Sl, A, P, C, Sd, Tg, Wd, []⟩ ∧ Turn Nn w wr ∧ EvAt wr n ⟨2, Sl, A, P, C, Sd, Tg, Wd, N⟩ ∧ EvAt wr (n + 2) ⟨2, Sl, A, P, C, Sd, Tg, Wd, []⟩) := Lib.hid (by rw [← ewr]; exact TDoor.fin D21.out ⟨2, Sl, A, P, C, Sd, Tg, Wd, []⟩)
            have fwr : (((((((((w21.setCell ⟨n + 1, 0, none⟩ (.int .i64 (2))).setCell ⟨n + 1, 1, none⟩ (.int .i64 (Sl))).setCell ⟨n + 1, 2, none⟩ (.string (BT (A)))).setCell ⟨n + 1, 3, none⟩ (.int .i64 (P))).setCell ⟨n + 1, 4, none⟩ (.string (BT (C)))).setCell ⟨n + 1, 5, none⟩ (.int .i64 (Sd))).setCell ⟨n + 1, 6, none⟩ (.int .i64 (Tg))).setCell ⟨n + 1, 7, none⟩ (.int .i64 (Wd))).setCell ⟨n + 1, 8, none⟩ (.string ⟨#[]⟩)) = wr := ewr
            clear ewr
            refine held_one 15 (by kernel_rfl) rfl (by kernel_rfl) (fun K hK => ?_)
            go_simp
            refine hK _ _ ⟨Fwr.out.2.2.1, Fwr.out.2.2.2⟩ ?_
            clear hK K
            try simp only [Act.put, nA, nB, nC, nD, nE, nF]
            refine held_take 16 ?_ rfl (by kernel_rfl) (by kernel_rfl) (by kernel_rfl) (fun _ _ _ h => h) (Or.inl ⟨by kernel_rfl, ?_⟩) ⟨Fwr.out.2.2.1, Fwr.out.2.2.2⟩ ?_
            rotate_left 1
            · intro u hu; go_simp; first | done | with_reducible rfl
            try simp only [Act.put, nA, nB, nC, nD, nE, nF]
            refine wpAnyH_done (by kernel_rfl) ?_ _
            go_wp2_with fail
            exact bodyPost_ret (res48 rfl rfl rfl Fwr.out.1) rfl ⟨rfl, Fwr.out.2.1⟩
          | true =>
            refine held_take 11 (.bool true) rfl (by kernel_rfl) (by kernel_rfl) (by kernel_rfl) (fun _ _ _ h => h) (Or.inl ⟨by kernel_rfl, ?_⟩) ⟨D21.out.ev, D21.out.told⟩ ?_
            · intro u hu; kernel_rfl
            try simp only [Act.put, nA, nB, nC, nD, nE, nF]
            refine held_take 12 (.bool mB) rfl (by kernel_rfl) (by kernel_rfl) (by kernel_rfl) (fun _ _ _ h => h) (Or.inl ⟨by kernel_rfl, ?_⟩) ⟨D21.out.ev, D21.out.told⟩ ?_
            · intro u hu; kernel_rfl
            try simp only [Act.put, nA, nB, nC, nD, nE, nF]
            refine held_take 13 (.bool mB) rfl (by kernel_rfl) (by kernel_rfl) (by kernel_rfl) (fun _ _ _ h => h) (Or.inl ⟨by kernel_rfl, ?_⟩) ⟨D21.out.ev, D21.out.told⟩ ?_
            · intro u hu; kernel_rfl
            try simp only [Act.put, nA, nB, nC, nD, nE, nF]
            refine held_take 14 ?_ rfl (by kernel_rfl) (by kernel_rfl) (by kernel_rfl) (fun _ _ _ h => h) (Or.inl ⟨by kernel_rfl, ?_⟩) ⟨D21.out.ev, D21.out.told⟩ ?_
            rotate_left 1
            · intro u hu; go_simp; first | done | with_reducible rfl
            try simp only [Act.put, nA, nB, nC, nD, nE, nF]
            have x0 : w21.cell? ⟨n + 1, 0, none⟩ = some (.int .i64 0) := cell_blk D21.out.res
            have x1 : w21.cell? ⟨n + 1, 1, none⟩ = some (.int .i64 0) := cell_blk D21.out.res
            have x2 : w21.cell? ⟨n + 1, 2, none⟩ = some (.string ⟨#[]⟩) := cell_blk D21.out.res
            have x3 : w21.cell? ⟨n + 1, 3, none⟩ = some (.int .i64 0) := cell_blk D21.out.res
            have x4 : w21.cell? ⟨n + 1, 4, none⟩ = some (.string ⟨#[]⟩) := cell_blk D21.out.res
            have x5 : w21.cell? ⟨n + 1, 5, none⟩ = some (.int .i64 0) := cell_blk D21.out.res
            have x6 : w21.cell? ⟨n + 1, 6, none⟩ = some (.int .i64 0) := cell_blk D21.out.res
            have x7 : w21.cell? ⟨n + 1, 7, none⟩ = some (.int .i64 0) := cell_blk D21.out.res
            have x8 : w21.cell? ⟨n + 1, 8, none⟩ = some (.string ⟨#[]⟩) := cell_blk D21.out.res
            have z0 : w21.frozen? ⟨n + 1, 0, none⟩ = false := frozen_blk D21.out.res
            have z1 : w21.frozen? ⟨n + 1, 1, none⟩ = false := frozen_blk D21.out.res
            have z2 : w21.frozen? ⟨n + 1, 2, none⟩ = false := frozen_blk D21.out.res
            have z3 : w21.frozen? ⟨n + 1, 3, none⟩ = false := frozen_blk D21.out.res
            have z4 : w21.frozen? ⟨n + 1, 4, none⟩ = false := frozen_blk D21.out.res
            have z5 : w21.frozen? ⟨n + 1, 5, none⟩ = false := frozen_blk D21.out.res
            have z6 : w21.frozen? ⟨n + 1, 6, none⟩ = false := frozen_blk D21.out.res
            have z7 : w21.frozen? ⟨n + 1, 7, none⟩ = false := frozen_blk D21.out.res
            have z8 : w21.frozen? ⟨n + 1, 8, none⟩ = false := frozen_blk D21.out.res
            obtain ⟨wr, ewr⟩ : ∃ x, set9 w21 (n + 1) ⟨2, Sl, A, P, C, Sd, Tg, Wd, []⟩ = x := ⟨_, rfl⟩
            have Fwr : Hid (EvAt wr (n + 1) ⟨2, Sl, A, P, C, Sd, Tg, Wd, []⟩ ∧ Turn Nn w wr ∧ EvAt wr n ⟨2, Sl, A, P, C, Sd, Tg, Wd, N⟩ ∧ EvAt wr (n + 2) ⟨2, Sl, A, P, C, Sd, Tg, Wd, []⟩) := Lib.hid (by rw [← ewr]; exact TDoor.fin D21.out ⟨2, Sl, A, P, C, Sd, Tg, Wd, []⟩)
            have fwr : (((((((((w21.setCell ⟨n + 1, 0, none⟩ (.int .i64 (2))).setCell ⟨n + 1, 1, none⟩ (.int .i64 (Sl))).setCell ⟨n + 1, 2, none⟩ (.string (BT (A)))).setCell ⟨n + 1, 3, none⟩ (.int .i64 (P))).setCell ⟨n + 1, 4, none⟩ (.string (BT (C)))).setCell ⟨n + 1, 5, none⟩ (.int .i64 (Sd))).setCell ⟨n + 1, 6, none⟩ (.int .i64 (Tg))).setCell ⟨n + 1, 7, none⟩ (.int .i64 (Wd))).setCell ⟨n + 1, 8, none⟩ (.string ⟨#[]⟩)) = wr := ewr
            clear ewr
            refine held_one 15 (by kernel_rfl) rfl (by kernel_rfl) (fun K hK => ?_)
            go_simp
            refine hK _ _ ⟨Fwr.out.2.2.1, Fwr.out.2.2.2⟩ ?_
            clear hK K
            try simp only [Act.put, nA, nB, nC, nD, nE, nF]
            refine held_take 16 ?_ rfl (by kernel_rfl) (by kernel_rfl) (by kernel_rfl) (fun _ _ _ h => h) (Or.inl ⟨by kernel_rfl, ?_⟩) ⟨Fwr.out.2.2.1, Fwr.out.2.2.2⟩ ?_
            rotate_left 1
            · intro u hu; go_simp; first | done | with_reducible rfl
            try simp only [Act.put, nA, nB, nC, nD, nE, nF]
            refine wpAnyH_done (by kernel_rfl) ?_ _
            go_wp2_with fail
            exact bodyPost_ret (res48 rfl rfl rfl Fwr.out.1) rfl ⟨rfl, Fwr.out.2.1⟩
    by_cases k3 : K = 3
    · subst k3
      clear c1 c8 c9 c4 c5 c6
      have y4 : w6.cell? ⟨n, 4, none⟩ = some (.string (BT C)) := cell_blk D6.out.ev
      have x4 : w6.cell? ⟨n + 2, 4, none⟩ = some (.string ⟨#[]⟩) := cell_blk D6.out.told
      have z4 : w6.frozen? ⟨n + 2, 4, none⟩ = false := frozen_blk D6.out.told
      obtain ⟨w7, ew7⟩ : ∃ x, w6.setCell ⟨n + 2, 4, none⟩ (.string (BT C)) = x := ⟨_, rfl⟩
      have D7 : Hid (TDoor w w7 n ⟨3, Sl, A, P, C, Sd, Tg, Wd, N⟩ ⟨3, Sl, A, P, C, 0, 0, 0, []⟩) := Lib.hid (by rw [← ew7]; exact D6.out.set 4 (.string (BT C)) rfl)
      have y5 : w7.cell? ⟨n, 5, none⟩ = some (.int .i64 Sd) := cell_blk D7.out.ev
      have x5 : w7.cell? ⟨n + 2, 5, none⟩ = some (.int .i64 (0)) := cell_blk D7.out.told
      have z5 : w7.frozen? ⟨n + 2, 5, none⟩ = false := frozen_blk D7.out.told
      obtain ⟨w8, ew8⟩ : ∃ x, w7.setCell ⟨n + 2, 5, none⟩ (.int .i64 Sd) = x := ⟨_, rfl⟩
      have D8 : Hid (TDoor w w8 n ⟨3, Sl, A, P, C, Sd, Tg, Wd, N⟩ ⟨3, Sl, A, P, C, Sd, 0, 0, []⟩) := Lib.hid (by rw [← ew8]; exact D7.out.set 5 (.int .i64 Sd) rfl)
      go_upto_region 24 with (fail)
      clear ew7 ew8 y4 y5 x4 x5 z4 z5
      go_cut [8] from 145 to 160 (fun v wx => v = .bool (Wh && placeD ⟨3, Sl, A, P, C, Sd, Tg, Wd, N⟩) ∧ TDoor w wx n ⟨3, Sl, A, P, C, Sd, Tg, Wd, N⟩ ⟨3, Sl, A, P, C, Sd, 0, 0, []⟩)
      case first =>
        have hpl : placeD ⟨3, Sl, A, P, C, Sd, Tg, Wd, N⟩ = decide (chanL C = true ∧ (Sd = 0 ∨ Sd = 1)) := rfl
        have HPL := Lib.hid hpl
        obtain ⟨zc, hzc⟩ : ∃ z, chanL C = z := ⟨_, rfl⟩
        have HZC := Lib.hid hzc
        rw [hzc] at GC
        clear hpl hzc
        have y4 : w8.cell? ⟨n, 4, none⟩ = some (.string (BT (C))) := cell_blk D8.out.ev
        have y5 : w8.cell? ⟨n, 5, none⟩ = some (.int .i64 (Sd)) := cell_blk D8.out.ev
        cases Wh with
        | false =>
          go_wp2_with fail
          go_meet
          case rel => exact ⟨by simp, D8.out⟩
        | true =>
          cases zc with
          | false =>
            go_wp2_with fail
            refine (GC.out _).mono ?_
            rintro e x ⟨rfl, t⟩
            have D9 := Lib.hid (D8.out.turn t)
            clear t y4 y5
            go_wp2_with fail
            go_meet
            case rel => exact ⟨by rw [HPL.out, HZC.out]; rfl, D9.out⟩
          | true =>
            go_wp2_with fail
            refine (GC.out _).mono ?_
            rintro e x ⟨rfl, t⟩
            have D9 := Lib.hid (D8.out.turn t)
            clear t y4 y5
            have y5 : x.cell? ⟨n, 5, none⟩ = some (.int .i64 Sd) := cell_blk D9.out.ev
            by_cases s0 : Sd = 0
            · subst s0
              go_wp2_with fail
              go_meet
              case rel => exact ⟨by rw [HPL.out, HZC.out]; rfl, D9.out⟩
            · have s0b : (Sd == 0) = false := by simp [s0]
              by_cases s1 : Sd = 1
              · subst s1
                go_wp2_with fail
                go_meet
                case rel => exact ⟨by rw [HPL.out, HZC.out]; rfl, D9.out⟩
              · have s1b : (Sd == 1) = false := by simp [s1]
                go_wp2_with fail
                go_meet
                case rel => exact ⟨by rw [HPL.out, HZC.out]; simp [s0, s1], D9.out⟩
      case rest =>
        obtain ⟨rfl, d⟩ := hcut
        have D9 := Lib.hid d
        clear d D6 D7 D8
        obtain ⟨w9, hw9⟩ : ∃ x, x = wc := ⟨_, rfl⟩
        subst hw9
        obtain ⟨PW, hPW⟩ : ∃ x, (Wh && placeD ⟨3, Sl, A, P, C, Sd, Tg, Wd, N⟩) = x := ⟨_, rfl⟩
        have HPW := Lib.hid hPW
        rw [hPW]
        clear hPW
        obtain ⟨eT, heT⟩ : ∃ x, endT ⟨3, Sl, A, P, C, Sd, Tg, Wd, N⟩ = x := ⟨_, rfl⟩
        obtain ⟨mT, hmT⟩ : ∃ x, (msgT ⟨3, Sl, A, P, C, Sd, Tg, Wd, N⟩).1 = x := ⟨_, rfl⟩
        obtain ⟨mB, hmB⟩ : ∃ x, (msgT ⟨3, Sl, A, P, C, Sd, Tg, Wd, N⟩).2 = x := ⟨_, rfl⟩
        have GE := Lib.hid (end_any2 (E := ⟨3, Sl, A, P, C, Sd, Tg, Wd, N⟩) HS.out.chan)
        have GM := Lib.hid (msg_any (E := ⟨3, Sl, A, P, C, Sd, Tg, Wd, N⟩) HS.out.ints.word HS.out.name)
        have hle : eT.length ≤ 1100002 := by
          rw [← heT]
          unfold endT
          have := LL.out.2.1
          simp
          omega
        have hlm : mT.length ≤ 1100100 := by
          rw [← hmT]
          have := LL.out
          unfold msgT
          split
          · simp [wWord]; omega
          split
          · simp [wLabel]; omega
          split
          · simp [wEnd]; omega
          · simp
        have HeT := Lib.hid heT
        have HmT := Lib.hid hmT
        have HmB := Lib.hid hmB
        rw [heT] at GE
        rw [hmT, hmB] at GM
        have lH := LH.out
        have hcat1 : ∀ W, (Op.stringOp .add (BT Hd) ⟨#[32, 103, 111, 116, 32]⟩).run Tryz.prog W = .ok (.string (BT (Hd ++ [32, 103, 111, 116, 32]))) W := fun W => cat_run (b := [32, 103, 111, 116, 32]) (by simp; omega) W
        have hcat2 : ∀ W, (Op.stringOp .add (BT (Hd ++ [32, 103, 111, 116, 32])) (BT eT)).run Tryz.prog W = .ok (.string (BT (Hd ++ [32, 103, 111, 116, 32] ++ eT))) W := fun W => cat_run (by simp; omega) W
        have hcat3 : ∀ W, (Op.stringOp .add (BT (Hd ++ [32, 103, 111, 116, 32] ++ eT)) ⟨#[32]⟩).run Tryz.prog W = .ok (.string (BT (Hd ++ [32, 103, 111, 116, 32] ++ eT ++ [32]))) W := fun W => cat_run (b := [32]) (by simp; omega) W
        have hcat4 : ∀ W, (Op.stringOp .add (BT (Hd ++ [32, 103, 111, 116, 32] ++ eT ++ [32])) (BT mT)).run Tryz.prog W = .ok (.string (BT (Hd ++ 32 :: (wGot ++ 32 :: (eT ++ 32 :: mT))))) W := fun W => by
          rw [cat_run (by simp; omega) W]
          simp [wGot]
        generalize BT (Hd ++ [32, 103, 111, 116, 32] ++ eT ++ [32]) = J3 at hcat3 hcat4
        generalize BT (Hd ++ [32, 103, 111, 116, 32] ++ eT) = J2 at hcat2 hcat3
        generalize BT (Hd ++ [32, 103, 111, 116, 32]) = J1 at hcat1 hcat2
        have H1 := Lib.hid hcat1
        have H2 := Lib.hid hcat2
        have H3 := Lib.hid hcat3
        have H4 := Lib.hid hcat4
        clear lH hcat1 hcat2 hcat3 hcat4 heT hmT hmB hle hlm
        have y0 : w9.cell? ⟨n, 0, none⟩ = some (.int .i64 (3)) := cell_blk D9.out.ev
        have y1 : w9.cell? ⟨n, 1, none⟩ = some (.int .i64 (Sl)) := cell_blk D9.out.ev
        have y2 : w9.cell? ⟨n, 2, none⟩ = some (.string (BT (A))) := cell_blk D9.out.ev
        have y3 : w9.cell? ⟨n, 3, none⟩ = some (.int .i64 (P)) := cell_blk D9.out.ev
        have y4 : w9.cell? ⟨n, 4, none⟩ = some (.string (BT (C))) := cell_blk D9.out.ev
        have y5 : w9.cell? ⟨n, 5, none⟩ = some (.int .i64 (Sd)) := cell_blk D9.out.ev
        have y6 : w9.cell? ⟨n, 6, none⟩ = some (.int .i64 (Tg)) := cell_blk D9.out.ev
        have y7 : w9.cell? ⟨n, 7, none⟩ = some (.int .i64 (Wd)) := cell_blk D9.out.ev
        have y8 : w9.cell? ⟨n, 8, none⟩ = some (.string (BT (N))) := cell_blk D9.out.ev
        unfold evC at GM GE
        go_wp2_with fail
        refine (GM.out _).mono ?_
        rintro e w10 ⟨rfl, t⟩
        have D10 := Lib.hid (D9.out.turn t)
        clear t
        clear y0 y1 y2 y3 y4 y5 y6 y7 y8
        have y6 : w10.cell? ⟨n, 6, none⟩ = some (.int .i64 (Tg)) := cell_blk D10.out.ev
        have x6 : w10.cell? ⟨n + 2, 6, none⟩ = some (.int .i64 (0)) := cell_blk D10.out.told
        have z6 : w10.frozen? ⟨n + 2, 6, none⟩ = false := frozen_blk D10.out.told
        obtain ⟨w11, ew11⟩ : ∃ x, w10.setCell ⟨n + 2, 6, none⟩ (.int .i64 Tg) = x := ⟨_, rfl⟩
        have D11 : Hid (TDoor w w11 n ⟨3, Sl, A, P, C, Sd, Tg, Wd, N⟩ ⟨3, Sl, A, P, C, Sd, Tg, 0, []⟩) := Lib.hid (by rw [← ew11]; exact D10.out.set 6 (.int .i64 Tg) rfl)
        have y7 : w11.cell? ⟨n, 7, none⟩ = some (.int .i64 (Wd)) := cell_blk D11.out.ev
        have x7 : w11.cell? ⟨n + 2, 7, none⟩ = some (.int .i64 (0)) := cell_blk D11.out.told
        have z7 : w11.frozen? ⟨n + 2, 7, none⟩ = false := frozen_blk D11.out.told
        obtain ⟨w12, ew12⟩ : ∃ x, w11.setCell ⟨n + 2, 7, none⟩ (.int .i64 Wd) = x := ⟨_, rfl⟩
        have D12 : Hid (TDoor w w12 n ⟨3, Sl, A, P, C, Sd, Tg, Wd, N⟩ ⟨3, Sl, A, P, C, Sd, Tg, Wd, []⟩) := Lib.hid (by rw [← ew12]; exact D11.out.set 7 (.int .i64 Wd) rfl)
        by_cases t2 : Tg = 2
        · subst t2
          have g6 : w12.cell? ⟨n, 6, none⟩ = some (.int .i64 2) := cell_blk D12.out.ev
          have p7 : w12.cell? ⟨n + 2, 7, none⟩ = some (.int .i64 (Wd)) := cell_blk D12.out.told
          have r7 : w12.frozen? ⟨n + 2, 7, none⟩ = false := frozen_blk D12.out.told
          obtain ⟨w13, ew13⟩ : ∃ x, w12.setCell ⟨n + 2, 7, none⟩ (.int .i64 0) = x := ⟨_, rfl⟩
          have D13 : Hid (TDoor w w13 n ⟨3, Sl, A, P, C, Sd, 2, Wd, N⟩ ⟨3, Sl, A, P, C, Sd, 2, 0, []⟩) := Lib.hid (by rw [← ew13]; exact D12.out.set 7 (.int .i64 0) rfl)
          have g8 : w13.cell? ⟨n, 8, none⟩ = some (.string (BT (N))) := cell_blk D13.out.ev
          have p8 : w13.cell? ⟨n + 2, 8, none⟩ = some (.string ⟨#[]⟩) := cell_blk D13.out.told
          have r8 : w13.frozen? ⟨n + 2, 8, none⟩ = false := frozen_blk D13.out.told
          obtain ⟨w14, ew14⟩ : ∃ x, w13.setCell ⟨n + 2, 8, none⟩ (.string (BT N)) = x := ⟨_, rfl⟩
          have D14 : Hid (TDoor w w14 n ⟨3, Sl, A, P, C, Sd, 2, Wd, N⟩ ⟨3, Sl, A, P, C, Sd, 2, 0, N⟩) := Lib.hid (by rw [← ew14]; exact D13.out.set 8 (.string (BT N)) rfl)
          have hR : ((Hd ++ 32 :: (wGot ++ 32 :: (eT ++ 32 :: mT)), ⟨3, Sl, A, P, C, Sd, 2, 0, N⟩, (PW && mB)) : Bs × EventD × Bool) = (R1, R2, R3) := by
            rw [← HHd.out, ← HPW.out, ← HWh.out, ← HeT.out, ← HmT.out, ← HmB.out]
            exact HR.out
          simp only [Prod.mk.injEq] at hR
          obtain ⟨rfl, rfl, rfl⟩ := hR
          have g0 : w14.cell? ⟨n, 0, none⟩ = some (.int .i64 3) := cell_blk D14.out.ev
          go_upto_region 38 with (fail)
          clear g0 g6 ew11 ew12 y6 y7 x6 x7 z6 z7 ew13 ew14 p7 r7 g8 p8 r8
          refine held_begin (fun u => EvAt u n ⟨3, Sl, A, P, C, Sd, 2, Wd, N⟩ ∧ EvAt u (n + 2) ⟨3, Sl, A, P, C, Sd, 2, 0, N⟩) (by kernel_rfl) ?_
          have D20 := Lib.hid (D14.out.turn (Turn.refl Nn w14).drew)
          generalize World.drew w14 = w20 at D20 ⊢
          have hcat1 := H1.out
          have hcat2 := H2.out
          have hcat3 := H3.out
          have hcat4 := H4.out
          refine held_take 0 ?_ rfl (by kernel_rfl) (by kernel_rfl) (by kernel_rfl) (fun _ _ _ h => h) (Or.inl ⟨by kernel_rfl, ?_⟩) ⟨D20.out.ev, D20.out.told⟩ ?_
          rotate_left 1
          · intro u hu; go_simp; first | done | with_reducible rfl
          try simp only [Act.put, nA, nB, nC, nD, nE, nF]
          refine held_take 1 ?_ rfl (by kernel_rfl) (by kernel_rfl) (by kernel_rfl) (fun _ _ _ h => h) (Or.inl ⟨by kernel_rfl, ?_⟩) ⟨D20.out.ev, D20.out.told⟩ ?_
          rotate_left 1
          · intro u hu; go_simp; first | done | with_reducible rfl
          try simp only [Act.put, nA, nB, nC, nD, nE, nF]
          refine held_take 2 ?_ rfl (by kernel_rfl) (by kernel_rfl) (by kernel_rfl) (fun _ _ _ h => h) (Or.inl ⟨by kernel_rfl, ?_⟩) ⟨D20.out.ev, D20.out.told⟩ ?_
          rotate_left 1
          · intro u hu; go_simp; first | done | with_reducible rfl
          try simp only [Act.put, nA, nB, nC, nD, nE, nF]
          refine held_take 3 ?_ rfl (by kernel_rfl) (by kernel_rfl) (by kernel_rfl) (fun _ _ _ h => h) (Or.inl ⟨by kernel_rfl, ?_⟩) ⟨D20.out.ev, D20.out.told⟩ ?_
          rotate_left 1
          · intro u hu; obtain ⟨hu1, hu2⟩ := hu; have y0 : u.cell? ⟨n, 0, none⟩ = some (.int .i64 (3)) := cell_blk hu1; have y1 : u.cell? ⟨n, 1, none⟩ = some (.int .i64 (Sl)) := cell_blk hu1; have y2 : u.cell? ⟨n, 2, none⟩ = some (.string (BT (A))) := cell_blk hu1; have y3 : u.cell? ⟨n, 3, none⟩ = some (.int .i64 (P)) := cell_blk hu1; have y4 : u.cell? ⟨n, 4, none⟩ = some (.string (BT (C))) := cell_blk hu1; have y5 : u.cell? ⟨n, 5, none⟩ = some (.int .i64 (Sd)) := cell_blk hu1; have y6 : u.cell? ⟨n, 6, none⟩ = some (.int .i64 (2)) := cell_blk hu1; have y7 : u.cell? ⟨n, 7, none⟩ = some (.int .i64 (Wd)) := cell_blk hu1; have y8 : u.cell? ⟨n, 8, none⟩ = some (.string (BT (N))) := cell_blk hu1; go_simp; first | done | with_reducible rfl
          try simp only [Act.put, nA, nB, nC, nD, nE, nF]
          refine held_take 7 ?_ rfl (by kernel_rfl) (by kernel_rfl) (by kernel_rfl) (fun _ _ _ h => h) (Or.inl ⟨by kernel_rfl, ?_⟩) ⟨D20.out.ev, D20.out.told⟩ ?_
          rotate_left 1
          · intro u hu; go_simp; first | done | with_reducible rfl
          try simp only [Act.put, nA, nB, nC, nD, nE, nF]
          refine held_take 9 ?_ rfl (by kernel_rfl) (by kernel_rfl) (by kernel_rfl) (fun _ _ _ h => h) (Or.inl ⟨by kernel_rfl, ?_⟩) ⟨D20.out.ev, D20.out.told⟩ ?_
          rotate_left 1
          · intro u hu; obtain ⟨hu1, hu2⟩ := hu; have x0 : u.cell? ⟨n + 2, 0, none⟩ = some (.int .i64 (3)) := cell_blk hu2; have x1 : u.cell? ⟨n + 2, 1, none⟩ = some (.int .i64 (Sl)) := cell_blk hu2; have x2 : u.cell? ⟨n + 2, 2, none⟩ = some (.string (BT (A))) := cell_blk hu2; have x3 : u.cell? ⟨n + 2, 3, none⟩ = some (.int .i64 (P)) := cell_blk hu2; have x4 : u.cell? ⟨n + 2, 4, none⟩ = some (.string (BT (C))) := cell_blk hu2; have x5 : u.cell? ⟨n + 2, 5, none⟩ = some (.int .i64 (Sd)) := cell_blk hu2; have x6 : u.cell? ⟨n + 2, 6, none⟩ = some (.int .i64 (2)) := cell_blk hu2; have x7 : u.cell? ⟨n + 2, 7, none⟩ = some (.int .i64 (0)) := cell_blk hu2; have x8 : u.cell? ⟨n + 2, 8, none⟩ = some (.string (BT (N))) := cell_blk hu2; go_simp; first | done | with_reducible rfl
          try simp only [Act.put, nA, nB, nC, nD, nE, nF]
          refine held_take 10 ?_ rfl (by kernel_rfl) (by kernel_rfl) (by kernel_rfl) (fun _ _ _ h => h) (Or.inl ⟨by kernel_rfl, ?_⟩) ⟨D20.out.ev, D20.out.told⟩ ?_
          rotate_left 1
          · intro u hu; go_simp; first | done | with_reducible rfl
          try simp only [Act.put, nA, nB, nC, nD, nE, nF]
          refine held_call 4 (by kernel_rfl) rfl (by kernel_rfl) (by first | rfl | go_simp) (GE.out _) ?_ (fun c u h => by cases h.1) (fun u h => by cases h.1)
          rintro v9 w21 ⟨he, t⟩
          cases he
          have D21 := Lib.hid (D20.out.turn t)
          clear t
          refine ⟨⟨D21.out.ev, D21.out.told⟩, ?_⟩
          try simp only [Act.put, nA, nB, nC, nD, nE, nF]
          refine held_take 5 ?_ rfl (by kernel_rfl) (by kernel_rfl) (by kernel_rfl) (fun _ _ _ h => h) (Or.inl ⟨by kernel_rfl, ?_⟩) ⟨D21.out.ev, D21.out.told⟩ ?_
          rotate_left 1
          · intro u hu; go_simp; first | done | with_reducible rfl
          try simp only [Act.put, nA, nB, nC, nD, nE, nF]
          refine held_take 6 ?_ rfl (by kernel_rfl) (by kernel_rfl) (by kernel_rfl) (fun _ _ _ h => h) (Or.inl ⟨by kernel_rfl, ?_⟩) ⟨D21.out.ev, D21.out.told⟩ ?_
          rotate_left 1
          · intro u hu; go_simp; first | done | with_reducible rfl
          try simp only [Act.put, nA, nB, nC, nD, nE, nF]
          refine held_take 8 ?_ rfl (by kernel_rfl) (by kernel_rfl) (by kernel_rfl) (fun _ _ _ h => h) (Or.inl ⟨by kernel_rfl, ?_⟩) ⟨D21.out.ev, D21.out.told⟩ ?_
          rotate_left 1
          · intro u hu; go_simp; first | done | with_reducible rfl
          try simp only [Act.put, nA, nB, nC, nD, nE, nF]
          clear hcat1 hcat2 hcat3 hcat4
          cases PW with
          | false =>
            refine held_take 11 (.bool false) rfl (by kernel_rfl) (by kernel_rfl) (by kernel_rfl) (fun _ _ _ h => h) (Or.inl ⟨by kernel_rfl, ?_⟩) ⟨D21.out.ev, D21.out.told⟩ ?_
            · intro u hu; kernel_rfl
            try simp only [Act.put, nA, nB, nC, nD, nE, nF]
            refine held_take 12 undef rfl (by kernel_rfl) (by kernel_rfl) (by kernel_rfl) (fun _ _ _ h => h) (Or.inr ⟨by kernel_rfl, rfl⟩) ⟨D21.out.ev, D21.out.told⟩ ?_
            try simp only [Act.put, nA, nB, nC, nD, nE, nF]
            refine held_take 13 (.bool false) rfl (by kernel_rfl) (by kernel_rfl) (by kernel_rfl) (fun _ _ _ h => h) (Or.inl ⟨by kernel_rfl, ?_⟩) ⟨D21.out.ev, D21.out.told⟩ ?_
            · intro u hu; kernel_rfl
            try simp only [Act.put, nA, nB, nC, nD, nE, nF]
            refine held_take 14 ?_ rfl (by kernel_rfl) (by kernel_rfl) (by kernel_rfl) (fun _ _ _ h => h) (Or.inl ⟨by kernel_rfl, ?_⟩) ⟨D21.out.ev, D21.out.told⟩ ?_
            rotate_left 1
            · intro u hu; go_simp; first | done | with_reducible rfl
            try simp only [Act.put, nA, nB, nC, nD, nE, nF]
            have x0 : w21.cell? ⟨n + 1, 0, none⟩ = some (.int .i64 0) := cell_blk D21.out.res
            have x1 : w21.cell? ⟨n + 1, 1, none⟩ = some (.int .i64 0) := cell_blk D21.out.res
            have x2 : w21.cell? ⟨n + 1, 2, none⟩ = some (.string ⟨#[]⟩) := cell_blk D21.out.res
            have x3 : w21.cell? ⟨n + 1, 3, none⟩ = some (.int .i64 0) := cell_blk D21.out.res
            have x4 : w21.cell? ⟨n + 1, 4, none⟩ = some (.string ⟨#[]⟩) := cell_blk D21.out.res
            have x5 : w21.cell? ⟨n + 1, 5, none⟩ = some (.int .i64 0) := cell_blk D21.out.res
            have x6 : w21.cell? ⟨n + 1, 6, none⟩ = some (.int .i64 0) := cell_blk D21.out.res
            have x7 : w21.cell? ⟨n + 1, 7, none⟩ = some (.int .i64 0) := cell_blk D21.out.res
            have x8 : w21.cell? ⟨n + 1, 8, none⟩ = some (.string ⟨#[]⟩) := cell_blk D21.out.res
            have z0 : w21.frozen? ⟨n + 1, 0, none⟩ = false := frozen_blk D21.out.res
            have z1 : w21.frozen? ⟨n + 1, 1, none⟩ = false := frozen_blk D21.out.res
            have z2 : w21.frozen? ⟨n + 1, 2, none⟩ = false := frozen_blk D21.out.res
            have z3 : w21.frozen? ⟨n + 1, 3, none⟩ = false := frozen_blk D21.out.res
            have z4 : w21.frozen? ⟨n + 1, 4, none⟩ = false := frozen_blk D21.out.res
            have z5 : w21.frozen? ⟨n + 1, 5, none⟩ = false := frozen_blk D21.out.res
            have z6 : w21.frozen? ⟨n + 1, 6, none⟩ = false := frozen_blk D21.out.res
            have z7 : w21.frozen? ⟨n + 1, 7, none⟩ = false := frozen_blk D21.out.res
            have z8 : w21.frozen? ⟨n + 1, 8, none⟩ = false := frozen_blk D21.out.res
            obtain ⟨wr, ewr⟩ : ∃ x, set9 w21 (n + 1) ⟨3, Sl, A, P, C, Sd, 2, 0, N⟩ = x := ⟨_, rfl⟩
            have Fwr : Hid (EvAt wr (n + 1) ⟨3, Sl, A, P, C, Sd, 2, 0, N⟩ ∧ Turn Nn w wr ∧ EvAt wr n ⟨3, Sl, A, P, C, Sd, 2, Wd, N⟩ ∧ EvAt wr (n + 2) ⟨3, Sl, A, P, C, Sd, 2, 0, N⟩) := Lib.hid (by rw [← ewr]; exact TDoor.fin D21.out ⟨3, Sl, A, P, C, Sd, 2, 0, N⟩)
            have fwr : (((((((((w21.setCell ⟨n + 1, 0, none⟩ (.int .i64 (3))).setCell ⟨n + 1, 1, none⟩ (.int .i64 (Sl))).setCell ⟨n + 1, 2, none⟩ (.string (BT (A)))).setCell ⟨n + 1, 3, none⟩ (.int .i64 (P))).setCell ⟨n + 1, 4, none⟩ (.string (BT (C)))).setCell ⟨n + 1, 5, none⟩ (.int .i64 (Sd))).setCell ⟨n + 1, 6, none⟩ (.int .i64 (2))).setCell ⟨n + 1, 7, none⟩ (.int .i64 (0))).setCell ⟨n + 1, 8, none⟩ (.string (BT (N)))) = wr := ewr
            clear ewr
            refine held_one 15 (by kernel_rfl) rfl (by kernel_rfl) (fun K hK => ?_)
            go_simp
            refine hK _ _ ⟨Fwr.out.2.2.1, Fwr.out.2.2.2⟩ ?_
            clear hK K
            try simp only [Act.put, nA, nB, nC, nD, nE, nF]
            refine held_take 16 ?_ rfl (by kernel_rfl) (by kernel_rfl) (by kernel_rfl) (fun _ _ _ h => h) (Or.inl ⟨by kernel_rfl, ?_⟩) ⟨Fwr.out.2.2.1, Fwr.out.2.2.2⟩ ?_
            rotate_left 1
            · intro u hu; go_simp; first | done | with_reducible rfl
            try simp only [Act.put, nA, nB, nC, nD, nE, nF]
            refine wpAnyH_done (by kernel_rfl) ?_ _
            go_wp2_with fail
            exact bodyPost_ret (res48 rfl rfl rfl Fwr.out.1) rfl ⟨rfl, Fwr.out.2.1⟩
          | true =>
            refine held_take 11 (.bool true) rfl (by kernel_rfl) (by kernel_rfl) (by kernel_rfl) (fun _ _ _ h => h) (Or.inl ⟨by kernel_rfl, ?_⟩) ⟨D21.out.ev, D21.out.told⟩ ?_
            · intro u hu; kernel_rfl
            try simp only [Act.put, nA, nB, nC, nD, nE, nF]
            refine held_take 12 (.bool mB) rfl (by kernel_rfl) (by kernel_rfl) (by kernel_rfl) (fun _ _ _ h => h) (Or.inl ⟨by kernel_rfl, ?_⟩) ⟨D21.out.ev, D21.out.told⟩ ?_
            · intro u hu; kernel_rfl
            try simp only [Act.put, nA, nB, nC, nD, nE, nF]
            refine held_take 13 (.bool mB) rfl (by kernel_rfl) (by kernel_rfl) (by kernel_rfl) (fun _ _ _ h => h) (Or.inl ⟨by kernel_rfl, ?_⟩) ⟨D21.out.ev, D21.out.told⟩ ?_
            · intro u hu; kernel_rfl
            try simp only [Act.put, nA, nB, nC, nD, nE, nF]
            refine held_take 14 ?_ rfl (by kernel_rfl) (by kernel_rfl) (by kernel_rfl) (fun _ _ _ h => h) (Or.inl ⟨by kernel_rfl, ?_⟩) ⟨D21.out.ev, D21.out.told⟩ ?_
            rotate_left 1
            · intro u hu; go_simp; first | done | with_reducible rfl
            try simp only [Act.put, nA, nB, nC, nD, nE, nF]
            have x0 : w21.cell? ⟨n + 1, 0, none⟩ = some (.int .i64 0) := cell_blk D21.out.res
            have x1 : w21.cell? ⟨n + 1, 1, none⟩ = some (.int .i64 0) := cell_blk D21.out.res
            have x2 : w21.cell? ⟨n + 1, 2, none⟩ = some (.string ⟨#[]⟩) := cell_blk D21.out.res
            have x3 : w21.cell? ⟨n + 1, 3, none⟩ = some (.int .i64 0) := cell_blk D21.out.res
            have x4 : w21.cell? ⟨n + 1, 4, none⟩ = some (.string ⟨#[]⟩) := cell_blk D21.out.res
            have x5 : w21.cell? ⟨n + 1, 5, none⟩ = some (.int .i64 0) := cell_blk D21.out.res
            have x6 : w21.cell? ⟨n + 1, 6, none⟩ = some (.int .i64 0) := cell_blk D21.out.res
            have x7 : w21.cell? ⟨n + 1, 7, none⟩ = some (.int .i64 0) := cell_blk D21.out.res
            have x8 : w21.cell? ⟨n + 1, 8, none⟩ = some (.string ⟨#[]⟩) := cell_blk D21.out.res
            have z0 : w21.frozen? ⟨n + 1, 0, none⟩ = false := frozen_blk D21.out.res
            have z1 : w21.frozen? ⟨n + 1, 1, none⟩ = false := frozen_blk D21.out.res
            have z2 : w21.frozen? ⟨n + 1, 2, none⟩ = false := frozen_blk D21.out.res
            have z3 : w21.frozen? ⟨n + 1, 3, none⟩ = false := frozen_blk D21.out.res
            have z4 : w21.frozen? ⟨n + 1, 4, none⟩ = false := frozen_blk D21.out.res
            have z5 : w21.frozen? ⟨n + 1, 5, none⟩ = false := frozen_blk D21.out.res
            have z6 : w21.frozen? ⟨n + 1, 6, none⟩ = false := frozen_blk D21.out.res
            have z7 : w21.frozen? ⟨n + 1, 7, none⟩ = false := frozen_blk D21.out.res
            have z8 : w21.frozen? ⟨n + 1, 8, none⟩ = false := frozen_blk D21.out.res
            obtain ⟨wr, ewr⟩ : ∃ x, set9 w21 (n + 1) ⟨3, Sl, A, P, C, Sd, 2, 0, N⟩ = x := ⟨_, rfl⟩
            have Fwr : Hid (EvAt wr (n + 1) ⟨3, Sl, A, P, C, Sd, 2, 0, N⟩ ∧ Turn Nn w wr ∧ EvAt wr n ⟨3, Sl, A, P, C, Sd, 2, Wd, N⟩ ∧ EvAt wr (n + 2) ⟨3, Sl, A, P, C, Sd, 2, 0, N⟩) := Lib.hid (by rw [← ewr]; exact TDoor.fin D21.out ⟨3, Sl, A, P, C, Sd, 2, 0, N⟩)
            have fwr : (((((((((w21.setCell ⟨n + 1, 0, none⟩ (.int .i64 (3))).setCell ⟨n + 1, 1, none⟩ (.int .i64 (Sl))).setCell ⟨n + 1, 2, none⟩ (.string (BT (A)))).setCell ⟨n + 1, 3, none⟩ (.int .i64 (P))).setCell ⟨n + 1, 4, none⟩ (.string (BT (C)))).setCell ⟨n + 1, 5, none⟩ (.int .i64 (Sd))).setCell ⟨n + 1, 6, none⟩ (.int .i64 (2))).setCell ⟨n + 1, 7, none⟩ (.int .i64 (0))).setCell ⟨n + 1, 8, none⟩ (.string (BT (N)))) = wr := ewr
            clear ewr
            refine held_one 15 (by kernel_rfl) rfl (by kernel_rfl) (fun K hK => ?_)
            go_simp
            refine hK _ _ ⟨Fwr.out.2.2.1, Fwr.out.2.2.2⟩ ?_
            clear hK K
            try simp only [Act.put, nA, nB, nC, nD, nE, nF]
            refine held_take 16 ?_ rfl (by kernel_rfl) (by kernel_rfl) (by kernel_rfl) (fun _ _ _ h => h) (Or.inl ⟨by kernel_rfl, ?_⟩) ⟨Fwr.out.2.2.1, Fwr.out.2.2.2⟩ ?_
            rotate_left 1
            · intro u hu; go_simp; first | done | with_reducible rfl
            try simp only [Act.put, nA, nB, nC, nD, nE, nF]
            refine wpAnyH_done (by kernel_rfl) ?_ _
            go_wp2_with fail
            exact bodyPost_ret (res48 rfl rfl rfl Fwr.out.1) rfl ⟨rfl, Fwr.out.2.1⟩
        · have t2b : (Tg == 2) = false := by simp [t2]
          have g6 : w12.cell? ⟨n, 6, none⟩ = some (.int .i64 Tg) := cell_blk D12.out.ev
          have hR : ((Hd ++ 32 :: (wGot ++ 32 :: (eT ++ 32 :: mT)), ⟨3, Sl, A, P, C, Sd, Tg, Wd, []⟩, (PW && mB)) : Bs × EventD × Bool) = (R1, R2, R3) := by
            rw [← HHd.out, ← HPW.out, ← HWh.out, ← HeT.out, ← HmT.out, ← HmB.out]
            have hr := HR.out
            have ht : told2 ⟨3, Sl, A, P, C, Sd, Tg, Wd, N⟩ = ⟨3, Sl, A, P, C, Sd, Tg, Wd, []⟩ := if_neg t2
            rw [← ht]
            exact hr
          simp only [Prod.mk.injEq] at hR
          obtain ⟨rfl, rfl, rfl⟩ := hR
          have g0 : w12.cell? ⟨n, 0, none⟩ = some (.int .i64 3) := cell_blk D12.out.ev
          go_upto_region 38 with (fail)
          clear g0 g6 ew11 ew12 y6 y7 x6 x7 z6 z7 t2b
          refine held_begin (fun u => EvAt u n ⟨3, Sl, A, P, C, Sd, Tg, Wd, N⟩ ∧ EvAt u (n + 2) ⟨3, Sl, A, P, C, Sd, Tg, Wd, []⟩) (by kernel_rfl) ?_
          have D20 := Lib.hid (D12.out.turn (Turn.refl Nn w12).drew)
          generalize World.drew w12 = w20 at D20 ⊢
          have hcat1 := H1.out
          have hcat2 := H2.out
          have hcat3 := H3.out
          have hcat4 := H4.out
          refine held_take 0 ?_ rfl (by kernel_rfl) (by kernel_rfl) (by kernel_rfl) (fun _ _ _ h => h) (Or.inl ⟨by kernel_rfl, ?_⟩) ⟨D20.out.ev, D20.out.told⟩ ?_
          rotate_left 1
          · intro u hu; go_simp; first | done | with_reducible rfl
          try simp only [Act.put, nA, nB, nC, nD, nE, nF]
          refine held_take 1 ?_ rfl (by kernel_rfl) (by kernel_rfl) (by kernel_rfl) (fun _ _ _ h => h) (Or.inl ⟨by kernel_rfl, ?_⟩) ⟨D20.out.ev, D20.out.told⟩ ?_
          rotate_left 1
          · intro u hu; go_simp; first | done | with_reducible rfl
          try simp only [Act.put, nA, nB, nC, nD, nE, nF]
          refine held_take 2 ?_ rfl (by kernel_rfl) (by kernel_rfl) (by kernel_rfl) (fun _ _ _ h => h) (Or.inl ⟨by kernel_rfl, ?_⟩) ⟨D20.out.ev, D20.out.told⟩ ?_
          rotate_left 1
          · intro u hu; go_simp; first | done | with_reducible rfl
          try simp only [Act.put, nA, nB, nC, nD, nE, nF]
          refine held_take 3 ?_ rfl (by kernel_rfl) (by kernel_rfl) (by kernel_rfl) (fun _ _ _ h => h) (Or.inl ⟨by kernel_rfl, ?_⟩) ⟨D20.out.ev, D20.out.told⟩ ?_
          rotate_left 1
          · intro u hu; obtain ⟨hu1, hu2⟩ := hu; have y0 : u.cell? ⟨n, 0, none⟩ = some (.int .i64 (3)) := cell_blk hu1; have y1 : u.cell? ⟨n, 1, none⟩ = some (.int .i64 (Sl)) := cell_blk hu1; have y2 : u.cell? ⟨n, 2, none⟩ = some (.string (BT (A))) := cell_blk hu1; have y3 : u.cell? ⟨n, 3, none⟩ = some (.int .i64 (P)) := cell_blk hu1; have y4 : u.cell? ⟨n, 4, none⟩ = some (.string (BT (C))) := cell_blk hu1; have y5 : u.cell? ⟨n, 5, none⟩ = some (.int .i64 (Sd)) := cell_blk hu1; have y6 : u.cell? ⟨n, 6, none⟩ = some (.int .i64 (Tg)) := cell_blk hu1; have y7 : u.cell? ⟨n, 7, none⟩ = some (.int .i64 (Wd)) := cell_blk hu1; have y8 : u.cell? ⟨n, 8, none⟩ = some (.string (BT (N))) := cell_blk hu1; go_simp; first | done | with_reducible rfl
          try simp only [Act.put, nA, nB, nC, nD, nE, nF]
          refine held_take 7 ?_ rfl (by kernel_rfl) (by kernel_rfl) (by kernel_rfl) (fun _ _ _ h => h) (Or.inl ⟨by kernel_rfl, ?_⟩) ⟨D20.out.ev, D20.out.told⟩ ?_
          rotate_left 1
          · intro u hu; go_simp; first | done | with_reducible rfl
          try simp only [Act.put, nA, nB, nC, nD, nE, nF]
          refine held_take 9 ?_ rfl (by kernel_rfl) (by kernel_rfl) (by kernel_rfl) (fun _ _ _ h => h) (Or.inl ⟨by kernel_rfl, ?_⟩) ⟨D20.out.ev, D20.out.told⟩ ?_
          rotate_left 1
          · intro u hu; obtain ⟨hu1, hu2⟩ := hu; have x0 : u.cell? ⟨n + 2, 0, none⟩ = some (.int .i64 (3)) := cell_blk hu2; have x1 : u.cell? ⟨n + 2, 1, none⟩ = some (.int .i64 (Sl)) := cell_blk hu2; have x2 : u.cell? ⟨n + 2, 2, none⟩ = some (.string (BT (A))) := cell_blk hu2; have x3 : u.cell? ⟨n + 2, 3, none⟩ = some (.int .i64 (P)) := cell_blk hu2; have x4 : u.cell? ⟨n + 2, 4, none⟩ = some (.string (BT (C))) := cell_blk hu2; have x5 : u.cell? ⟨n + 2, 5, none⟩ = some (.int .i64 (Sd)) := cell_blk hu2; have x6 : u.cell? ⟨n + 2, 6, none⟩ = some (.int .i64 (Tg)) := cell_blk hu2; have x7 : u.cell? ⟨n + 2, 7, none⟩ = some (.int .i64 (Wd)) := cell_blk hu2; have x8 : u.cell? ⟨n + 2, 8, none⟩ = some (.string ⟨#[]⟩) := cell_blk hu2; go_simp; first | done | with_reducible rfl
          try simp only [Act.put, nA, nB, nC, nD, nE, nF]
          refine held_take 10 ?_ rfl (by kernel_rfl) (by kernel_rfl) (by kernel_rfl) (fun _ _ _ h => h) (Or.inl ⟨by kernel_rfl, ?_⟩) ⟨D20.out.ev, D20.out.told⟩ ?_
          rotate_left 1
          · intro u hu; go_simp; first | done | with_reducible rfl
          try simp only [Act.put, nA, nB, nC, nD, nE, nF]
          refine held_call 4 (by kernel_rfl) rfl (by kernel_rfl) (by first | rfl | go_simp) (GE.out _) ?_ (fun c u h => by cases h.1) (fun u h => by cases h.1)
          rintro v9 w21 ⟨he, t⟩
          cases he
          have D21 := Lib.hid (D20.out.turn t)
          clear t
          refine ⟨⟨D21.out.ev, D21.out.told⟩, ?_⟩
          try simp only [Act.put, nA, nB, nC, nD, nE, nF]
          refine held_take 5 ?_ rfl (by kernel_rfl) (by kernel_rfl) (by kernel_rfl) (fun _ _ _ h => h) (Or.inl ⟨by kernel_rfl, ?_⟩) ⟨D21.out.ev, D21.out.told⟩ ?_
          rotate_left 1
          · intro u hu; go_simp; first | done | with_reducible rfl
          try simp only [Act.put, nA, nB, nC, nD, nE, nF]
          refine held_take 6 ?_ rfl (by kernel_rfl) (by kernel_rfl) (by kernel_rfl) (fun _ _ _ h => h) (Or.inl ⟨by kernel_rfl, ?_⟩) ⟨D21.out.ev, D21.out.told⟩ ?_
          rotate_left 1
          · intro u hu; go_simp; first | done | with_reducible rfl
          try simp only [Act.put, nA, nB, nC, nD, nE, nF]
          refine held_take 8 ?_ rfl (by kernel_rfl) (by kernel_rfl) (by kernel_rfl) (fun _ _ _ h => h) (Or.inl ⟨by kernel_rfl, ?_⟩) ⟨D21.out.ev, D21.out.told⟩ ?_
          rotate_left 1
          · intro u hu; go_simp; first | done | with_reducible rfl
          try simp only [Act.put, nA, nB, nC, nD, nE, nF]
          clear hcat1 hcat2 hcat3 hcat4
          cases PW with
          | false =>
            refine held_take 11 (.bool false) rfl (by kernel_rfl) (by kernel_rfl) (by kernel_rfl) (fun _ _ _ h => h) (Or.inl ⟨by kernel_rfl, ?_⟩) ⟨D21.out.ev, D21.out.told⟩ ?_
            · intro u hu; kernel_rfl
            try simp only [Act.put, nA, nB, nC, nD, nE, nF]
            refine held_take 12 undef rfl (by kernel_rfl) (by kernel_rfl) (by kernel_rfl) (fun _ _ _ h => h) (Or.inr ⟨by kernel_rfl, rfl⟩) ⟨D21.out.ev, D21.out.told⟩ ?_
            try simp only [Act.put, nA, nB, nC, nD, nE, nF]
            refine held_take 13 (.bool false) rfl (by kernel_rfl) (by kernel_rfl) (by kernel_rfl) (fun _ _ _ h => h) (Or.inl ⟨by kernel_rfl, ?_⟩) ⟨D21.out.ev, D21.out.told⟩ ?_
            · intro u hu; kernel_rfl
            try simp only [Act.put, nA, nB, nC, nD, nE, nF]
            refine held_take 14 ?_ rfl (by kernel_rfl) (by kernel_rfl) (by kernel_rfl) (fun _ _ _ h => h) (Or.inl ⟨by kernel_rfl, ?_⟩) ⟨D21.out.ev, D21.out.told⟩ ?_
            rotate_left 1
            · intro u hu; go_simp; first | done | with_reducible rfl
            try simp only [Act.put, nA, nB, nC, nD, nE, nF]
            have x0 : w21.cell? ⟨n + 1, 0, none⟩ = some (.int .i64 0) := cell_blk D21.out.res
            have x1 : w21.cell? ⟨n + 1, 1, none⟩ = some (.int .i64 0) := cell_blk D21.out.res
            have x2 : w21.cell? ⟨n + 1, 2, none⟩ = some (.string ⟨#[]⟩) := cell_blk D21.out.res
            have x3 : w21.cell? ⟨n + 1, 3, none⟩ = some (.int .i64 0) := cell_blk D21.out.res
            have x4 : w21.cell? ⟨n + 1, 4, none⟩ = some (.string ⟨#[]⟩) := cell_blk D21.out.res
            have x5 : w21.cell? ⟨n + 1, 5, none⟩ = some (.int .i64 0) := cell_blk D21.out.res
            have x6 : w21.cell? ⟨n + 1, 6, none⟩ = some (.int .i64 0) := cell_blk D21.out.res
            have x7 : w21.cell? ⟨n + 1, 7, none⟩ = some (.int .i64 0) := cell_blk D21.out.res
            have x8 : w21.cell? ⟨n + 1, 8, none⟩ = some (.string ⟨#[]⟩) := cell_blk D21.out.res
            have z0 : w21.frozen? ⟨n + 1, 0, none⟩ = false := frozen_blk D21.out.res
            have z1 : w21.frozen? ⟨n + 1, 1, none⟩ = false := frozen_blk D21.out.res
            have z2 : w21.frozen? ⟨n + 1, 2, none⟩ = false := frozen_blk D21.out.res
            have z3 : w21.frozen? ⟨n + 1, 3, none⟩ = false := frozen_blk D21.out.res
            have z4 : w21.frozen? ⟨n + 1, 4, none⟩ = false := frozen_blk D21.out.res
            have z5 : w21.frozen? ⟨n + 1, 5, none⟩ = false := frozen_blk D21.out.res
            have z6 : w21.frozen? ⟨n + 1, 6, none⟩ = false := frozen_blk D21.out.res
            have z7 : w21.frozen? ⟨n + 1, 7, none⟩ = false := frozen_blk D21.out.res
            have z8 : w21.frozen? ⟨n + 1, 8, none⟩ = false := frozen_blk D21.out.res
            obtain ⟨wr, ewr⟩ : ∃ x, set9 w21 (n + 1) ⟨3, Sl, A, P, C, Sd, Tg, Wd, []⟩ = x := ⟨_, rfl⟩
            have Fwr : Hid (EvAt wr (n + 1) ⟨3, Sl, A, P, C, Sd, Tg, Wd, []⟩ ∧ Turn Nn w wr ∧ EvAt wr n ⟨3, Sl, A, P, C, Sd, Tg, Wd, N⟩ ∧ EvAt wr (n + 2) ⟨3, Sl, A, P, C, Sd, Tg, Wd, []⟩) := Lib.hid (by rw [← ewr]; exact TDoor.fin D21.out ⟨3, Sl, A, P, C, Sd, Tg, Wd, []⟩)
            have fwr : (((((((((w21.setCell ⟨n + 1, 0, none⟩ (.int .i64 (3))).setCell ⟨n + 1, 1, none⟩ (.int .i64 (Sl))).setCell ⟨n + 1, 2, none⟩ (.string (BT (A)))).setCell ⟨n + 1, 3, none⟩ (.int .i64 (P))).setCell ⟨n + 1, 4, none⟩ (.string (BT (C)))).setCell ⟨n + 1, 5, none⟩ (.int .i64 (Sd))).setCell ⟨n + 1, 6, none⟩ (.int .i64 (Tg))).setCell ⟨n + 1, 7, none⟩ (.int .i64 (Wd))).setCell ⟨n + 1, 8, none⟩ (.string ⟨#[]⟩)) = wr := ewr
            clear ewr
            refine held_one 15 (by kernel_rfl) rfl (by kernel_rfl) (fun K hK => ?_)
            go_simp
            refine hK _ _ ⟨Fwr.out.2.2.1, Fwr.out.2.2.2⟩ ?_
            clear hK K
            try simp only [Act.put, nA, nB, nC, nD, nE, nF]
            refine held_take 16 ?_ rfl (by kernel_rfl) (by kernel_rfl) (by kernel_rfl) (fun _ _ _ h => h) (Or.inl ⟨by kernel_rfl, ?_⟩) ⟨Fwr.out.2.2.1, Fwr.out.2.2.2⟩ ?_
            rotate_left 1
            · intro u hu; go_simp; first | done | with_reducible rfl
            try simp only [Act.put, nA, nB, nC, nD, nE, nF]
            refine wpAnyH_done (by kernel_rfl) ?_ _
            go_wp2_with fail
            exact bodyPost_ret (res48 rfl rfl rfl Fwr.out.1) rfl ⟨rfl, Fwr.out.2.1⟩
          | true =>
            refine held_take 11 (.bool true) rfl (by kernel_rfl) (by kernel_rfl) (by kernel_rfl) (fun _ _ _ h => h) (Or.inl ⟨by kernel_rfl, ?_⟩) ⟨D21.out.ev, D21.out.told⟩ ?_
            · intro u hu; kernel_rfl
            try simp only [Act.put, nA, nB, nC, nD, nE, nF]
            refine held_take 12 (.bool mB) rfl (by kernel_rfl) (by kernel_rfl) (by kernel_rfl) (fun _ _ _ h => h) (Or.inl ⟨by kernel_rfl, ?_⟩) ⟨D21.out.ev, D21.out.told⟩ ?_
            · intro u hu; kernel_rfl
            try simp only [Act.put, nA, nB, nC, nD, nE, nF]
            refine held_take 13 (.bool mB) rfl (by kernel_rfl) (by kernel_rfl) (by kernel_rfl) (fun _ _ _ h => h) (Or.inl ⟨by kernel_rfl, ?_⟩) ⟨D21.out.ev, D21.out.told⟩ ?_
            · intro u hu; kernel_rfl
            try simp only [Act.put, nA, nB, nC, nD, nE, nF]
            refine held_take 14 ?_ rfl (by kernel_rfl) (by kernel_rfl) (by kernel_rfl) (fun _ _ _ h => h) (Or.inl ⟨by kernel_rfl, ?_⟩) ⟨D21.out.ev, D21.out.told⟩ ?_
            rotate_left 1
            · intro u hu; go_simp; first | done | with_reducible rfl
            try simp only [Act.put, nA, nB, nC, nD, nE, nF]
            have x0 : w21.cell? ⟨n + 1, 0, none⟩ = some (.int .i64 0) := cell_blk D21.out.res
            have x1 : w21.cell? ⟨n + 1, 1, none⟩ = some (.int .i64 0) := cell_blk D21.out.res
            have x2 : w21.cell? ⟨n + 1, 2, none⟩ = some (.string ⟨#[]⟩) := cell_blk D21.out.res
            have x3 : w21.cell? ⟨n + 1, 3, none⟩ = some (.int .i64 0) := cell_blk D21.out.res
            have x4 : w21.cell? ⟨n + 1, 4, none⟩ = some (.string ⟨#[]⟩) := cell_blk D21.out.res
            have x5 : w21.cell? ⟨n + 1, 5, none⟩ = some (.int .i64 0) := cell_blk D21.out.res
            have x6 : w21.cell? ⟨n + 1, 6, none⟩ = some (.int .i64 0) := cell_blk D21.out.res
            have x7 : w21.cell? ⟨n + 1, 7, none⟩ = some (.int .i64 0) := cell_blk D21.out.res
            have x8 : w21.cell? ⟨n + 1, 8, none⟩ = some (.string ⟨#[]⟩) := cell_blk D21.out.res
            have z0 : w21.frozen? ⟨n + 1, 0, none⟩ = false := frozen_blk D21.out.res
            have z1 : w21.frozen? ⟨n + 1, 1, none⟩ = false := frozen_blk D21.out.res
            have z2 : w21.frozen? ⟨n + 1, 2, none⟩ = false := frozen_blk D21.out.res
            have z3 : w21.frozen? ⟨n + 1, 3, none⟩ = false := frozen_blk D21.out.res
            have z4 : w21.frozen? ⟨n + 1, 4, none⟩ = false := frozen_blk D21.out.res
            have z5 : w21.frozen? ⟨n + 1, 5, none⟩ = false := frozen_blk D21.out.res
            have z6 : w21.frozen? ⟨n + 1, 6, none⟩ = false := frozen_blk D21.out.res
            have z7 : w21.frozen? ⟨n + 1, 7, none⟩ = false := frozen_blk D21.out.res
            have z8 : w21.frozen? ⟨n + 1, 8, none⟩ = false := frozen_blk D21.out.res
            obtain ⟨wr, ewr⟩ : ∃ x, set9 w21 (n + 1) ⟨3, Sl, A, P, C, Sd, Tg, Wd, []⟩ = x := ⟨_, rfl⟩
            have Fwr : Hid (EvAt wr (n + 1) ⟨3, Sl, A, P, C, Sd, Tg, Wd, []⟩ ∧ Turn Nn w wr ∧ EvAt wr n ⟨3, Sl, A, P, C, Sd, Tg, Wd, N⟩ ∧ EvAt wr (n + 2) ⟨3, Sl, A, P, C, Sd, Tg, Wd, []⟩) := Lib.hid (by rw [← ewr]; exact TDoor.fin D21.out ⟨3, Sl, A, P, C, Sd, Tg, Wd, []⟩)
            have fwr : (((((((((w21.setCell ⟨n + 1, 0, none⟩ (.int .i64 (3))).setCell ⟨n + 1, 1, none⟩ (.int .i64 (Sl))).setCell ⟨n + 1, 2, none⟩ (.string (BT (A)))).setCell ⟨n + 1, 3, none⟩ (.int .i64 (P))).setCell ⟨n + 1, 4, none⟩ (.string (BT (C)))).setCell ⟨n + 1, 5, none⟩ (.int .i64 (Sd))).setCell ⟨n + 1, 6, none⟩ (.int .i64 (Tg))).setCell ⟨n + 1, 7, none⟩ (.int .i64 (Wd))).setCell ⟨n + 1, 8, none⟩ (.string ⟨#[]⟩)) = wr := ewr
            clear ewr
            refine held_one 15 (by kernel_rfl) rfl (by kernel_rfl) (fun K hK => ?_)
            go_simp
            refine hK _ _ ⟨Fwr.out.2.2.1, Fwr.out.2.2.2⟩ ?_
            clear hK K
            try simp only [Act.put, nA, nB, nC, nD, nE, nF]
            refine held_take 16 ?_ rfl (by kernel_rfl) (by kernel_rfl) (by kernel_rfl) (fun _ _ _ h => h) (Or.inl ⟨by kernel_rfl, ?_⟩) ⟨Fwr.out.2.2.1, Fwr.out.2.2.2⟩ ?_
            rotate_left 1
            · intro u hu; go_simp; first | done | with_reducible rfl
            try simp only [Act.put, nA, nB, nC, nD, nE, nF]
            refine wpAnyH_done (by kernel_rfl) ?_ _
            go_wp2_with fail
            exact bodyPost_ret (res48 rfl rfl rfl Fwr.out.1) rfl ⟨rfl, Fwr.out.2.1⟩
    have c7 : (K == 7) = false := by simp [k7]
    have c2 : (K == 2) = false := by simp [k2]
    have c3 : (K == 3) = false := by simp [k3]
    have n2 : (K != 2) = true := by simp [k2]
    have n3 : (K != 3) = true := by simp [k3]
    have y4 : w6.cell? ⟨n, 4, none⟩ = some (.string (BT C)) := cell_blk D6.out.ev
    have x4 : w6.cell? ⟨n + 2, 4, none⟩ = some (.string ⟨#[]⟩) := cell_blk D6.out.told
    have z4 : w6.frozen? ⟨n + 2, 4, none⟩ = false := frozen_blk D6.out.told
    obtain ⟨w7, ew7⟩ : ∃ x, w6.setCell ⟨n + 2, 4, none⟩ (.string (BT C)) = x := ⟨_, rfl⟩
    have D7 : Hid (TDoor w w7 n ⟨K, Sl, A, P, C, Sd, Tg, Wd, N⟩ ⟨K, Sl, A, P, C, 0, 0, 0, []⟩) := Lib.hid (by rw [← ew7]; exact D6.out.set 4 (.string (BT C)) rfl)
    have y5 : w7.cell? ⟨n, 5, none⟩ = some (.int .i64 Sd) := cell_blk D7.out.ev
    have x5 : w7.cell? ⟨n + 2, 5, none⟩ = some (.int .i64 (0)) := cell_blk D7.out.told
    have z5 : w7.frozen? ⟨n + 2, 5, none⟩ = false := frozen_blk D7.out.told
    obtain ⟨w8, ew8⟩ : ∃ x, w7.setCell ⟨n + 2, 5, none⟩ (.int .i64 Sd) = x := ⟨_, rfl⟩
    have D8 : Hid (TDoor w w8 n ⟨K, Sl, A, P, C, Sd, Tg, Wd, N⟩ ⟨K, Sl, A, P, C, Sd, 0, 0, []⟩) := Lib.hid (by rw [← ew8]; exact D7.out.set 5 (.int .i64 Sd) rfl)
    go_upto_region 24 with (fail)
    clear ew7 ew8 y4 y5 x4 x5 z4 z5
    go_cut [8] from 145 to 160 (fun v wx => v = .bool (Wh && placeD ⟨K, Sl, A, P, C, Sd, Tg, Wd, N⟩) ∧ TDoor w wx n ⟨K, Sl, A, P, C, Sd, Tg, Wd, N⟩ ⟨K, Sl, A, P, C, Sd, 0, 0, []⟩)
    case first =>
      have hpl : placeD ⟨K, Sl, A, P, C, Sd, Tg, Wd, N⟩ = decide (chanL C = true ∧ (Sd = 0 ∨ Sd = 1)) := rfl
      have HPL := Lib.hid hpl
      obtain ⟨zc, hzc⟩ : ∃ z, chanL C = z := ⟨_, rfl⟩
      have HZC := Lib.hid hzc
      rw [hzc] at GC
      clear hpl hzc
      have y4 : w8.cell? ⟨n, 4, none⟩ = some (.string (BT (C))) := cell_blk D8.out.ev
      have y5 : w8.cell? ⟨n, 5, none⟩ = some (.int .i64 (Sd)) := cell_blk D8.out.ev
      cases Wh with
      | false =>
        go_wp2_with fail
        go_meet
        case rel => exact ⟨by simp, D8.out⟩
      | true =>
        cases zc with
        | false =>
          go_wp2_with fail
          refine (GC.out _).mono ?_
          rintro e x ⟨rfl, t⟩
          have D9 := Lib.hid (D8.out.turn t)
          clear t y4 y5
          go_wp2_with fail
          go_meet
          case rel => exact ⟨by rw [HPL.out, HZC.out]; rfl, D9.out⟩
        | true =>
          go_wp2_with fail
          refine (GC.out _).mono ?_
          rintro e x ⟨rfl, t⟩
          have D9 := Lib.hid (D8.out.turn t)
          clear t y4 y5
          have y5 : x.cell? ⟨n, 5, none⟩ = some (.int .i64 Sd) := cell_blk D9.out.ev
          by_cases s0 : Sd = 0
          · subst s0
            go_wp2_with fail
            go_meet
            case rel => exact ⟨by rw [HPL.out, HZC.out]; rfl, D9.out⟩
          · have s0b : (Sd == 0) = false := by simp [s0]
            by_cases s1 : Sd = 1
            · subst s1
              go_wp2_with fail
              go_meet
              case rel => exact ⟨by rw [HPL.out, HZC.out]; rfl, D9.out⟩
            · have s1b : (Sd == 1) = false := by simp [s1]
              go_wp2_with fail
              go_meet
              case rel => exact ⟨by rw [HPL.out, HZC.out]; simp [s0, s1], D9.out⟩
    case rest =>
      obtain ⟨rfl, d⟩ := hcut
      have D9 := Lib.hid d
      clear d D6 D7 D8
      obtain ⟨w9, hw9⟩ : ∃ x, x = wc := ⟨_, rfl⟩
      subst hw9
      obtain ⟨PW, hPW⟩ : ∃ x, (Wh && placeD ⟨K, Sl, A, P, C, Sd, Tg, Wd, N⟩) = x := ⟨_, rfl⟩
      have HPW := Lib.hid hPW
      rw [hPW]
      clear hPW
      have hR : (([], ⟨K, Sl, A, P, C, Sd, 0, 0, []⟩, false) : Bs × EventD × Bool) = (R1, R2, R3) := by
        have hr := HR.out
        unfold refT at hr
        simp only [k1, k2, k3, k4, k5, k6, k7, k8, k9, if_false] at hr
        rw [if_neg (by simpa using hk0)] at hr
        exact hr
      simp only [Prod.mk.injEq] at hR
      obtain ⟨rfl, rfl, rfl⟩ := hR
      have g0 : w9.cell? ⟨n, 0, none⟩ = some (.int .i64 K) := cell_blk D9.out.ev
      go_upto_region 28 with (fail)
      refine held_begin (fun u => EvAt u n ⟨K, Sl, A, P, C, Sd, Tg, Wd, N⟩ ∧ EvAt u (n + 2) ⟨K, Sl, A, P, C, Sd, 0, 0, []⟩) (by kernel_rfl) ?_
      have D10 := Lib.hid (D9.out.turn (Turn.refl Nn w9).drew)
      generalize World.drew w9 = w10 at D10 ⊢
      refine held_take 0 ?_ rfl (by kernel_rfl) (by kernel_rfl) (by kernel_rfl) (fun _ _ _ h => h) (Or.inl ⟨by kernel_rfl, ?_⟩) ⟨D10.out.ev, D10.out.told⟩ ?_
      rotate_left 1
      · intro u hu; obtain ⟨hu1, hu2⟩ := hu; have x0 : u.cell? ⟨n + 2, 0, none⟩ = some (.int .i64 (K)) := cell_blk hu2; have x1 : u.cell? ⟨n + 2, 1, none⟩ = some (.int .i64 (Sl)) := cell_blk hu2; have x2 : u.cell? ⟨n + 2, 2, none⟩ = some (.string (BT (A))) := cell_blk hu2; have x3 : u.cell? ⟨n + 2, 3, none⟩ = some (.int .i64 (P)) := cell_blk hu2; have x4 : u.cell? ⟨n + 2, 4, none⟩ = some (.string (BT (C))) := cell_blk hu2; have x5 : u.cell? ⟨n + 2, 5, none⟩ = some (.int .i64 (Sd)) := cell_blk hu2; have x6 : u.cell? ⟨n + 2, 6, none⟩ = some (.int .i64 (0)) := cell_blk hu2; have x7 : u.cell? ⟨n + 2, 7, none⟩ = some (.int .i64 (0)) := cell_blk hu2; have x8 : u.cell? ⟨n + 2, 8, none⟩ = some (.string ⟨#[]⟩) := cell_blk hu2; go_simp; first | done | with_reducible rfl
      try simp only [Act.put, nA, nB, nC, nD, nE, nF]
      refine held_take 1 ?_ rfl (by kernel_rfl) (by kernel_rfl) (by kernel_rfl) (fun _ _ _ h => h) (Or.inl ⟨by kernel_rfl, ?_⟩) ⟨D10.out.ev, D10.out.told⟩ ?_
      rotate_left 1
      · intro u hu; go_simp; first | done | with_reducible rfl
      try simp only [Act.put, nA, nB, nC, nD, nE, nF]
      have x0 : w10.cell? ⟨n + 1, 0, none⟩ = some (.int .i64 0) := cell_blk D10.out.res
      have x1 : w10.cell? ⟨n + 1, 1, none⟩ = some (.int .i64 0) := cell_blk D10.out.res
      have x2 : w10.cell? ⟨n + 1, 2, none⟩ = some (.string ⟨#[]⟩) := cell_blk D10.out.res
      have x3 : w10.cell? ⟨n + 1, 3, none⟩ = some (.int .i64 0) := cell_blk D10.out.res
      have x4 : w10.cell? ⟨n + 1, 4, none⟩ = some (.string ⟨#[]⟩) := cell_blk D10.out.res
      have x5 : w10.cell? ⟨n + 1, 5, none⟩ = some (.int .i64 0) := cell_blk D10.out.res
      have x6 : w10.cell? ⟨n + 1, 6, none⟩ = some (.int .i64 0) := cell_blk D10.out.res
      have x7 : w10.cell? ⟨n + 1, 7, none⟩ = some (.int .i64 0) := cell_blk D10.out.res
      have x8 : w10.cell? ⟨n + 1, 8, none⟩ = some (.string ⟨#[]⟩) := cell_blk D10.out.res
      have z0 : w10.frozen? ⟨n + 1, 0, none⟩ = false := frozen_blk D10.out.res
      have z1 : w10.frozen? ⟨n + 1, 1, none⟩ = false := frozen_blk D10.out.res
      have z2 : w10.frozen? ⟨n + 1, 2, none⟩ = false := frozen_blk D10.out.res
      have z3 : w10.frozen? ⟨n + 1, 3, none⟩ = false := frozen_blk D10.out.res
      have z4 : w10.frozen? ⟨n + 1, 4, none⟩ = false := frozen_blk D10.out.res
      have z5 : w10.frozen? ⟨n + 1, 5, none⟩ = false := frozen_blk D10.out.res
      have z6 : w10.frozen? ⟨n + 1, 6, none⟩ = false := frozen_blk D10.out.res
      have z7 : w10.frozen? ⟨n + 1, 7, none⟩ = false := frozen_blk D10.out.res
      have z8 : w10.frozen? ⟨n + 1, 8, none⟩ = false := frozen_blk D10.out.res
      obtain ⟨wr, ewr⟩ : ∃ x, set9 w10 (n + 1) ⟨K, Sl, A, P, C, Sd, 0, 0, []⟩ = x := ⟨_, rfl⟩
      have Fwr := Lib.hid (by have h := D10.out.fin ⟨K, Sl, A, P, C, Sd, 0, 0, []⟩; rw [ewr] at h; exact h)
      have fwr : (((((((((w10.setCell ⟨n + 1, 0, none⟩ (.int .i64 (K))).setCell ⟨n + 1, 1, none⟩ (.int .i64 (Sl))).setCell ⟨n + 1, 2, none⟩ (.string (BT (A)))).setCell ⟨n + 1, 3, none⟩ (.int .i64 (P))).setCell ⟨n + 1, 4, none⟩ (.string (BT (C)))).setCell ⟨n + 1, 5, none⟩ (.int .i64 (Sd))).setCell ⟨n + 1, 6, none⟩ (.int .i64 (0))).setCell ⟨n + 1, 7, none⟩ (.int .i64 (0))).setCell ⟨n + 1, 8, none⟩ (.string ⟨#[]⟩)) = wr := ewr
      clear ewr
      refine held_one 2 (by kernel_rfl) rfl (by kernel_rfl) (fun K hK => ?_)
      go_simp
      refine hK _ _ ⟨Fwr.out.2.2.1, Fwr.out.2.2.2⟩ ?_
      clear hK K
      try simp only [Act.put, nA, nB, nC, nD, nE, nF]
      refine held_take 3 ?_ rfl (by kernel_rfl) (by kernel_rfl) (by kernel_rfl) (fun _ _ _ h => h) (Or.inl ⟨by kernel_rfl, ?_⟩) ⟨Fwr.out.2.2.1, Fwr.out.2.2.2⟩ ?_
      rotate_left 1
      · intro u hu; go_simp; first | done | with_reducible rfl
      try simp only [Act.put, nA, nB, nC, nD, nE, nF]
      refine wpAnyH_done (by kernel_rfl) ?_ _
      go_wp2_with fail
      exact bodyPost_ret (res48 rfl rfl rfl Fwr.out.1) rfl ⟨rfl, Fwr.out.2.1⟩
theorem refText_any {E : EventD} (hs : ESmall E) (w : World) : Calls Tryz.prog 48 #[.agg (evC E)] w fun e w' => e = .returned (.tuple #[.string (BT (refT E).1), .agg (evC (refT E).2.1), .bool (refT E).2.2]) ∧ Turn Nn w w' := by
  obtain ⟨K, Sl, A, P, C, Sd, Tg, Wd, N⟩ := E
  by_cases hK : K = 0
  · subst hK
    exact rtext0 hs
  · exact rtext1 hs hK rfl
end Go.Proofs.YtpbjblbeepbklaaGreatDoor
