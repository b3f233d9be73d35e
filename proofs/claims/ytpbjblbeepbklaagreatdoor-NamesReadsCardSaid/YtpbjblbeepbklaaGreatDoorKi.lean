/- The program's walks: a row's size, and how it tells an event. Printed by gen_ws.py. -/
import Derived.Test.YtpbjblbeepbklaaGreatDoorKh
namespace Go.Proofs.YtpbjblbeepbklaaGreatDoor
set_option linter.unusedSimpArgs false
set_option linter.unusedVariables false
open Go.RowKit Go.Shelf

def rowA (r : RowD) (v : Value) : Array Value := #[.int .i64 r.kind, .int .i64 r.tag, .string (BT r.word), .string (BT r.msg), v]
abbrev RowBox (w : World) (R : Nat) (r : RowD) (v : Value) : Prop := w.heap[R]? = some (.cells (rowA r v) 70)
theorem RowBox.turn {w w' : World} {R : Nat} {r : RowD} {v : Value} (h : RowBox w R r v) (k : Turn Nn w w') : RowBox w' R r v := (k.block R (heap_lt h) (fun h => h)).trans h
theorem rowCells {w : World} {R : Nat} {r : RowD} {v : Value} (h : RowBox w R r v) :
    w.cell? ⟨R, 0, none⟩ = some (.int .i64 r.kind) ∧ w.cell? ⟨R, 1, none⟩ = some (.int .i64 r.tag) ∧ w.cell? ⟨R, 2, none⟩ = some (.string (BT r.word)) ∧ w.cell? ⟨R, 3, none⟩ = some (.string (BT r.msg)) ∧ w.cell? ⟨R, 4, none⟩ = some v :=
  ⟨cell_blk h, cell_blk h, cell_blk h, cell_blk h, cell_blk h⟩
theorem box95 (w : World) {t r : Value} (ht : t.oneCell' = true) (hr : r.oneCell' = true) :
    ∃ w1 w2 w3, w.alloc (.cells #[.nilFunc, .nilFunc] 95) = w1 ∧ (store ⟨w.heap.size, 0, none⟩ t).run Tryz.prog w1 = .ok () w2 ∧ (store ⟨w.heap.size, 1, none⟩ r).run Tryz.prog w2 = .ok () w3 ∧ w3.heap[w.heap.size]? = some (.cells #[t, r] 95) ∧ Turn Nn w w3 := by
  obtain ⟨b1, t1⟩ := alloc1 (w := w) (a := .cells #[.nilFunc, .nilFunc] 95) rfl
  have b2 := heap_setCell_at b1 0 t
  exact ⟨_, _, _, rfl, store_at (cell_blk (o := 0) b1) (frozen_blk (o := 0) b1) ht, store_at (cell_blk (o := 1) b2) (frozen_blk (o := 1) b2) hr, two_set t r b1, (t1.setCell (p := ⟨w.heap.size, 0, none⟩) (.inr (Nat.le_refl _)) _).setCell (p := ⟨w.heap.size, 1, none⟩) (.inr (Nat.le_refl _)) _⟩
theorem FSl.len {w : World} {v : Value} {l : List Fld} (h : FSl w v l) : ∃ pa, v = .slice pa l.length l.length ∧ l.length ≤ 2 := by
  match l, h with
  | [], h => exact ⟨none, h, by simp⟩
  | [f], ⟨b, t, r, h1, _⟩ => exact ⟨_, h1, by simp⟩
  | [f, g], ⟨b, t, r, t', r', h1, _⟩ => exact ⟨_, h1, by simp⟩
theorem size_any {r : RowD} {v : Value} {w : World} (h : FSl w v r.flds) (hm : r.msg.length ≤ 1000) :
    Calls Tryz.prog 52 #[.agg (rowA r v)] w fun e w' => e = .returned (.int .i64 (sizeR r : Nat)) ∧ Turn Nn w w' := by
  obtain ⟨pa, rfl, hl⟩ := h.len
  obtain ⟨k, hk⟩ : ∃ k, sizeR r = k := ⟨_, rfl⟩
  have hk2 : k = 3 + r.flds.length + min r.msg.length 1 := hk.symm
  obtain ⟨n, hn⟩ : ∃ n, r.flds.length = n := ⟨_, rfl⟩
  obtain ⟨M, hM⟩ : ∃ M, BT r.msg = M := ⟨_, rfl⟩
  have hMs : M.size = r.msg.length := by rw [← hM]; exact BT_size _
  obtain ⟨m, hm2⟩ : ∃ m, r.msg.length = m := ⟨_, rfl⟩
  rw [hk]
  rw [hn] at hl hk2
  rw [hm2] at hMs hm hk2
  unfold rowA
  rw [hn, hM]
  clear hk hn hM h hm2
  by_cases h0 : m = 0
  · subst h0
    go_enter Tryz.func52, Tryz.ntmps52
    go_wp2_with fail
    go_ret
    refine ⟨?_, (Turn.refl Nn w).alloc _⟩
    subst hk2
    first
    | rfl
    | (congr 1; simp [hMs]; done)
    | (congr 1; simp [hMs]; omega)
    | (simp [hMs]; done)
    | (simp [hMs]; omega)
  · go_enter Tryz.func52, Tryz.ntmps52
    go_wp2_with fail
    go_ret
    refine ⟨?_, (Turn.refl Nn w).alloc _⟩
    have e1 : min ((m : Int)) 1 = 1 := Int.min_eq_right (by omega)
    have e2 : min m 1 = 1 := Nat.min_eq_right (by omega)
    subst hk2
    rw [e2]
    first
    | rfl
    | (congr 1; simp [hMs, e1]; done)
    | (congr 1; simp [hMs, e1]; omega)
    | (simp [hMs, e1]; done)
    | (simp [hMs, e1]; omega)
/-- What a row tells, or given up. -/
def TellX (w : World) (x : Option (List Bs)) (e : Ending) (w' : World) : Prop := match x with
  | some ws => ∃ v, e = .returned v ∧ OWS w v ws w'
  | none => e = badE ∧ Turn Nn w w'
abbrev TellR (w : World) (r : RowD) (E : EventD) : Ending → World → Prop := TellX w (tellR r E)
theorem OWS.lit3 {w0 w : World} (t : Turn Nn w0 w) (a b c : Bs) : OWS w0 (.slice (some ⟨w.heap.size, 0, none⟩) 3 3) [a, b, c] (w.alloc (.cells #[.string (BT a), .string (BT b), .string (BT c)] 9)) :=
  ⟨⟨rfl, .inr ⟨w.heap.size, 3, _, rfl, t.size, World.alloc_heap_new w _, Nat.le_refl _, by decide, rfl, rfl⟩⟩, t.alloc _⟩
set_option maxRecDepth 100000 in
set_option maxHeartbeats 16000000 in
theorem tell_nil {r : RowD} {E : EventD} (hf : r.flds = []) (hs : ESmall E) {B : Nat} {v : Value} {w : World} (hE : EvAt w B E) (hv : FSl w v r.flds) (hw : Laid w) :
    Calls Tryz.prog 45 #[.agg (rowA r v), .pointer (some ⟨B, 0, none⟩)] w (TellR w r E) := by
  have HW := Lib.hid hw
  have HE := Lib.hid hE
  have HS := Lib.hid hs
  have HI1 := fun w (h : Laid w) => Lib.hid (itoa_any hs.ints.slot h)
  have HI2 := fun w (h : Laid w) => Lib.hid (itoa_any hs.ints.pc h)
  obtain ⟨I1, hI1⟩ : ∃ I, BT (Lib.itoa E.slot) = I := ⟨_, rfl⟩
  obtain ⟨I2, hI2⟩ : ∃ I, BT (Lib.itoa E.pc) = I := ⟨_, rfl⟩
  obtain ⟨Z, hZ⟩ : ∃ Z, BT (E.actor ++ 64 :: Lib.itoa E.pc) = Z := ⟨_, rfl⟩
  obtain ⟨Y, hY⟩ : ∃ Y, BT (E.actor ++ [64]) = Y := ⟨_, rfl⟩
  have hal := hs.actor
  have hpl := itoa_len hs.ints.pc
  have hcat1 : ∀ W : World, (Op.stringOp .add (BT E.actor) ⟨#[64]⟩).run Tryz.prog W = .ok (.string Y) W := fun W => by
    rw [← hY]; exact cat_run (a := E.actor) (b := [64]) (by simp; omega) W
  have hcat2 : ∀ W : World, (Op.stringOp .add Y I2).run Tryz.prog W = .ok (.string Z) W := fun W => by
    rw [← hY, ← hZ, ← hI2]
    have := cat_run (a := E.actor ++ [64]) (b := Lib.itoa E.pc) (by simp; omega) W
    rw [this]; simp
  simp only [hI1] at HI1
  simp only [hI2] at HI2
  have HI1B := Lib.hid hI1
  have HZB := Lib.hid hZ
  rw [hf] at hv
  have HF := Lib.hid hf
  clear hw hE hs hI1 hI2 hZ hY hal hpl hf
  have HVE : Hid (v = .slice none 0 0) := Lib.hid hv
  clear hv
  have htr : tellR r E = some (headW r E) := by unfold tellR; rw [HF.out]
  unfold TellR
  rw [htr]
  clear htr
  have BW := World.alloc_heap_new w (.cells (rowA r v) 70)
  obtain ⟨w0, hw0⟩ : ∃ w0, w.alloc (.cells (rowA r v) 70) = w0 := ⟨_, rfl⟩
  obtain ⟨RB, hRB⟩ : ∃ RB, w.heap.size = RB := ⟨_, rfl⟩
  have HRB : Hid (RowBox w0 RB r v) := Lib.hid (by rw [← hw0, ← hRB]; exact BW)
  have T0 : Hid (Turn Nn w w0) := Lib.hid (by rw [← hw0]; exact (Turn.refl Nn w).alloc _)
  have HE0 := Lib.hid (HE.out.turn T0.out)
  have HW0 := Lib.hid (HW.out.turn T0.out)
  have hw0' : w.alloc (.cells #[.int .i64 r.kind, .int .i64 r.tag, .string (BT r.word), .string (BT r.msg), v] 70) = w0 := hw0
  clear BW hw0
  unfold rowA
  go_enter Tryz.func45, Tryz.ntmps45
  go_upto_region 1 with (fail)
  try rw [hw0']
  try rw [hRB]
  clear hw0' hRB
  refine held_begin (fun u => EvAt u B E ∧ RowBox u RB r v) (by kernel_rfl) ?_
  generalize hwd : World.drew w0 = wd
  have VD : Hid (Turn Nn w wd) := Lib.hid (by rw [← hwd]; exact T0.out.drew)
  have SD : Hid (EvAt wd B E ∧ RowBox wd RB r v) := Lib.hid (by rw [← hwd]; exact ⟨HE0.out, HRB.out⟩)
  have HWD : Hid (Laid wd) := Lib.hid (HW.out.turn VD.out)
  clear hwd
  refine held_take 0 ?_ rfl (by kernel_rfl) (by kernel_rfl) (by kernel_rfl) (fun _ _ _ h => h) (Or.inl ⟨by kernel_rfl, ?_⟩) SD.out ?_
  rotate_left 1
  · intro u hu; obtain ⟨hu1, hu2⟩ := hu; obtain ⟨y0, y1, y2, y3, y4, y5, y6, y7, y8⟩ := evCells hu1; obtain ⟨x0, x1, x2, x3, x4⟩ := rowCells hu2; go_simp; first | done | with_reducible rfl
  try simp only [Act.put, nA, nB, nC, nD, nE, nF]
  refine held_take 1 ?_ rfl (by kernel_rfl) (by kernel_rfl) (by kernel_rfl) (fun _ _ _ h => h) (Or.inl ⟨by kernel_rfl, ?_⟩) SD.out ?_
  rotate_left 1
  · intro u hu; obtain ⟨hu1, hu2⟩ := hu; obtain ⟨y0, y1, y2, y3, y4, y5, y6, y7, y8⟩ := evCells hu1; obtain ⟨x0, x1, x2, x3, x4⟩ := rowCells hu2; go_simp; first | done | with_reducible rfl
  try simp only [Act.put, nA, nB, nC, nD, nE, nF]
  refine held_take 2 ?_ rfl (by kernel_rfl) (by kernel_rfl) (by kernel_rfl) (fun _ _ _ h => h) (Or.inl ⟨by kernel_rfl, ?_⟩) SD.out ?_
  rotate_left 1
  · intro u hu; obtain ⟨hu1, hu2⟩ := hu; obtain ⟨y0, y1, y2, y3, y4, y5, y6, y7, y8⟩ := evCells hu1; obtain ⟨x0, x1, x2, x3, x4⟩ := rowCells hu2; go_simp; first | done | with_reducible rfl
  try simp only [Act.put, nA, nB, nC, nD, nE, nF]
  refine held_take 3 ?_ rfl (by kernel_rfl) (by kernel_rfl) (by kernel_rfl) (fun _ _ _ h => h) (Or.inl ⟨by kernel_rfl, ?_⟩) SD.out ?_
  rotate_left 1
  · intro u hu; obtain ⟨hu1, hu2⟩ := hu; obtain ⟨y0, y1, y2, y3, y4, y5, y6, y7, y8⟩ := evCells hu1; obtain ⟨x0, x1, x2, x3, x4⟩ := rowCells hu2; go_simp; first | done | with_reducible rfl
  try simp only [Act.put, nA, nB, nC, nD, nE, nF]
  refine held_take 5 ?_ rfl (by kernel_rfl) (by kernel_rfl) (by kernel_rfl) (fun _ _ _ h => h) (Or.inl ⟨by kernel_rfl, ?_⟩) SD.out ?_
  rotate_left 1
  · intro u hu; obtain ⟨hu1, hu2⟩ := hu; obtain ⟨y0, y1, y2, y3, y4, y5, y6, y7, y8⟩ := evCells hu1; obtain ⟨x0, x1, x2, x3, x4⟩ := rowCells hu2; go_simp; first | done | with_reducible rfl
  try simp only [Act.put, nA, nB, nC, nD, nE, nF]
  refine held_take 6 ?_ rfl (by kernel_rfl) (by kernel_rfl) (by kernel_rfl) (fun _ _ _ h => h) (Or.inl ⟨by kernel_rfl, ?_⟩) SD.out ?_
  rotate_left 1
  · intro u hu; obtain ⟨hu1, hu2⟩ := hu; obtain ⟨y0, y1, y2, y3, y4, y5, y6, y7, y8⟩ := evCells hu1; obtain ⟨x0, x1, x2, x3, x4⟩ := rowCells hu2; go_simp; first | done | with_reducible rfl
  try simp only [Act.put, nA, nB, nC, nD, nE, nF]
  refine held_take 7 ?_ rfl (by kernel_rfl) (by kernel_rfl) (by kernel_rfl) (fun _ _ _ h => h) (Or.inl ⟨by kernel_rfl, ?_⟩) SD.out ?_
  rotate_left 1
  · intro u hu; obtain ⟨hu1, hu2⟩ := hu; obtain ⟨y0, y1, y2, y3, y4, y5, y6, y7, y8⟩ := evCells hu1; obtain ⟨x0, x1, x2, x3, x4⟩ := rowCells hu2; go_simp; first | done | with_reducible rfl
  try simp only [Act.put, nA, nB, nC, nD, nE, nF]
  refine held_take 8 ?_ rfl (by kernel_rfl) (by kernel_rfl) (by kernel_rfl) (fun _ _ _ h => h) (Or.inl ⟨by kernel_rfl, ?_⟩) SD.out ?_
  rotate_left 1
  · intro u hu; obtain ⟨hu1, hu2⟩ := hu; obtain ⟨y0, y1, y2, y3, y4, y5, y6, y7, y8⟩ := evCells hu1; obtain ⟨x0, x1, x2, x3, x4⟩ := rowCells hu2; go_simp; first | done | with_reducible rfl
  try simp only [Act.put, nA, nB, nC, nD, nE, nF]
  refine held_take 9 ?_ rfl (by kernel_rfl) (by kernel_rfl) (by kernel_rfl) (fun _ _ _ h => h) (Or.inl ⟨by kernel_rfl, ?_⟩) SD.out ?_
  rotate_left 1
  · intro u hu; obtain ⟨hu1, hu2⟩ := hu; obtain ⟨y0, y1, y2, y3, y4, y5, y6, y7, y8⟩ := evCells hu1; obtain ⟨x0, x1, x2, x3, x4⟩ := rowCells hu2; go_simp; first | done | with_reducible rfl
  try simp only [Act.put, nA, nB, nC, nD, nE, nF]
  refine held_take 10 ?_ rfl (by kernel_rfl) (by kernel_rfl) (by kernel_rfl) (fun _ _ _ h => h) (Or.inl ⟨by kernel_rfl, ?_⟩) SD.out ?_
  rotate_left 1
  · intro u hu; obtain ⟨hu1, hu2⟩ := hu; obtain ⟨y0, y1, y2, y3, y4, y5, y6, y7, y8⟩ := evCells hu1; obtain ⟨x0, x1, x2, x3, x4⟩ := rowCells hu2; go_simp; first | done | with_reducible rfl
  try simp only [Act.put, nA, nB, nC, nD, nE, nF]
  refine held_take 11 ?_ rfl (by kernel_rfl) (by kernel_rfl) (by kernel_rfl) (fun _ _ _ h => h) (Or.inl ⟨by kernel_rfl, ?_⟩) SD.out ?_
  rotate_left 1
  · intro u hu; obtain ⟨hu1, hu2⟩ := hu; obtain ⟨y0, y1, y2, y3, y4, y5, y6, y7, y8⟩ := evCells hu1; obtain ⟨x0, x1, x2, x3, x4⟩ := rowCells hu2; go_simp; first | done | with_reducible rfl
  try simp only [Act.put, nA, nB, nC, nD, nE, nF]
  refine held_take 12 ?_ rfl (by kernel_rfl) (by kernel_rfl) (by kernel_rfl) (fun _ _ _ h => h) (Or.inl ⟨by kernel_rfl, ?_⟩) SD.out ?_
  rotate_left 1
  · intro u hu; obtain ⟨hu1, hu2⟩ := hu; obtain ⟨y0, y1, y2, y3, y4, y5, y6, y7, y8⟩ := evCells hu1; obtain ⟨x0, x1, x2, x3, x4⟩ := rowCells hu2; go_simp; first | done | with_reducible rfl
  try simp only [Act.put, nA, nB, nC, nD, nE, nF]
  refine held_take 13 ?_ rfl (by kernel_rfl) (by kernel_rfl) (by kernel_rfl) (fun _ _ _ h => h) (Or.inl ⟨by kernel_rfl, ?_⟩) SD.out ?_
  rotate_left 1
  · intro u hu; obtain ⟨hu1, hu2⟩ := hu; obtain ⟨y0, y1, y2, y3, y4, y5, y6, y7, y8⟩ := evCells hu1; obtain ⟨x0, x1, x2, x3, x4⟩ := rowCells hu2; go_simp; first | done | with_reducible rfl
  try simp only [Act.put, nA, nB, nC, nD, nE, nF]
  refine held_take 16 ?_ rfl (by kernel_rfl) (by kernel_rfl) (by kernel_rfl) (fun _ _ _ h => h) (Or.inl ⟨by kernel_rfl, ?_⟩) SD.out ?_
  rotate_left 1
  · intro u hu; obtain ⟨hu1, hu2⟩ := hu; obtain ⟨y0, y1, y2, y3, y4, y5, y6, y7, y8⟩ := evCells hu1; obtain ⟨x0, x1, x2, x3, x4⟩ := rowCells hu2; go_simp; first | done | with_reducible rfl
  try simp only [Act.put, nA, nB, nC, nD, nE, nF]
  refine held_take 17 ?_ rfl (by kernel_rfl) (by kernel_rfl) (by kernel_rfl) (fun _ _ _ h => h) (Or.inl ⟨by kernel_rfl, ?_⟩) SD.out ?_
  rotate_left 1
  · intro u hu; obtain ⟨hu1, hu2⟩ := hu; obtain ⟨y0, y1, y2, y3, y4, y5, y6, y7, y8⟩ := evCells hu1; obtain ⟨x0, x1, x2, x3, x4⟩ := rowCells hu2; go_simp; first | done | with_reducible rfl
  try simp only [Act.put, nA, nB, nC, nD, nE, nF]
  refine held_one 4 (by kernel_rfl) rfl (by kernel_rfl) (fun K hK => ?_)
  go_simp
  refine (HI1 _ HWD.out).out.mono ?_
  rintro e u1 ⟨rfl, t1⟩
  have V1 := Lib.hid (VD.out.trans t1)
  have S1 : Hid (EvAt u1 B E ∧ RowBox u1 RB r v) := Lib.hid ⟨SD.out.1.turn t1, SD.out.2.turn t1⟩
  clear t1
  refine hK _ _ S1.out ?_
  clear hK K
  try simp only [Act.put, nA, nB, nC, nD, nE, nF]
  refine held_one 14 (by kernel_rfl) rfl (by kernel_rfl) (fun K hK => ?_)
  go_simp
  refine (HI2 _ (HW.out.turn V1.out)).out.mono ?_
  rintro e u2 ⟨rfl, t2⟩
  have V2 := Lib.hid (V1.out.trans t2)
  have S2 : Hid (EvAt u2 B E ∧ RowBox u2 RB r v) := Lib.hid ⟨S1.out.1.turn t2, S1.out.2.turn t2⟩
  clear t2
  refine hK _ _ S2.out ?_
  clear hK K
  try simp only [Act.put, nA, nB, nC, nD, nE, nF]
  refine held_take 15 ?_ rfl (by kernel_rfl) (by kernel_rfl) (by kernel_rfl) (fun _ _ _ h => h) (Or.inl ⟨by kernel_rfl, ?_⟩) S2.out ?_
  rotate_left 1
  · intro u hu; obtain ⟨hu1, hu2⟩ := hu; obtain ⟨y0, y1, y2, y3, y4, y5, y6, y7, y8⟩ := evCells hu1; obtain ⟨x0, x1, x2, x3, x4⟩ := rowCells hu2; go_simp; first | done | with_reducible rfl
  try simp only [Act.put, nA, nB, nC, nD, nE, nF]
  obtain ⟨u3, hu3⟩ : ∃ u3, u2.alloc (.cells #[.string I1, .string Z, .string (BT r.word)] 9) = u3 := ⟨_, rfl⟩
  have OW3 : Hid (OWS w (.slice (some ⟨u2.heap.size, 0, none⟩) 3 3) (headW r E) u3) := Lib.hid (by rw [← hu3, ← HI1B.out, ← HZB.out]; exact OWS.lit3 V2.out _ _ _)
  have t3 : Turn Nn u2 u3 := by rw [← hu3]; exact (Turn.refl Nn u2).alloc _
  have V3 := Lib.hid (V2.out.trans t3)
  have S3 : Hid (EvAt u3 B E ∧ RowBox u3 RB r v) := Lib.hid ⟨S2.out.1.turn t3, S2.out.2.turn t3⟩
  clear t3
  refine held_one 18 (by kernel_rfl) rfl (by kernel_rfl) (fun K hK => ?_)
  go_simp
  refine hK _ _ S3.out ?_
  clear hK K
  try simp only [Act.put, nA, nB, nC, nD, nE, nF]
  clear hu3
  refine held_take 19 ?_ rfl (by kernel_rfl) (by kernel_rfl) (by kernel_rfl) (fun _ _ _ h => h) (Or.inl ⟨by kernel_rfl, ?_⟩) S3.out ?_
  rotate_left 1
  · intro u hu; obtain ⟨hu1, hu2⟩ := hu; obtain ⟨y0, y1, y2, y3, y4, y5, y6, y7, y8⟩ := evCells hu1; obtain ⟨x0, x1, x2, x3, x4⟩ := rowCells hu2; go_simp; first | done | with_reducible rfl
  try simp only [Act.put, nA, nB, nC, nD, nE, nF]
  refine wpAnyH_done (by kernel_rfl) ?_ _
  obtain ⟨n3, hn3⟩ : ∃ n, u2.heap.size = n := ⟨_, rfl⟩
  rw [hn3] at OW3 ⊢
  clear hn3
  obtain ⟨x0, x1, x2, x3, x4⟩ := rowCells S3.out.2
  rw [HVE.out] at x4
  go_wp2_with fail
  refine wp_loop_rounds 1 ?_
  rw [rounds_succ]
  go_wp2_with fail
  go_ret
  exact ⟨_, rfl, OW3.out⟩
set_option maxRecDepth 100000 in
set_option maxHeartbeats 16000000 in
theorem tell_one_word {r : RowD} {E : EventD} (hf : r.flds = [.word]) (hs : ESmall E) {B : Nat} {v : Value} {w : World} (hE : EvAt w B E) (hv : FSl w v r.flds) (hw : Laid w) :
    Calls Tryz.prog 45 #[.agg (rowA r v), .pointer (some ⟨B, 0, none⟩)] w (TellR w r E) := by
  have HW := Lib.hid hw
  have HE := Lib.hid hE
  have HS := Lib.hid hs
  have HI1 := fun w (h : Laid w) => Lib.hid (itoa_any hs.ints.slot h)
  have HI2 := fun w (h : Laid w) => Lib.hid (itoa_any hs.ints.pc h)
  obtain ⟨I1, hI1⟩ : ∃ I, BT (Lib.itoa E.slot) = I := ⟨_, rfl⟩
  obtain ⟨I2, hI2⟩ : ∃ I, BT (Lib.itoa E.pc) = I := ⟨_, rfl⟩
  obtain ⟨Z, hZ⟩ : ∃ Z, BT (E.actor ++ 64 :: Lib.itoa E.pc) = Z := ⟨_, rfl⟩
  obtain ⟨Y, hY⟩ : ∃ Y, BT (E.actor ++ [64]) = Y := ⟨_, rfl⟩
  have hal := hs.actor
  have hpl := itoa_len hs.ints.pc
  have hcat1 : ∀ W : World, (Op.stringOp .add (BT E.actor) ⟨#[64]⟩).run Tryz.prog W = .ok (.string Y) W := fun W => by
    rw [← hY]; exact cat_run (a := E.actor) (b := [64]) (by simp; omega) W
  have hcat2 : ∀ W : World, (Op.stringOp .add Y I2).run Tryz.prog W = .ok (.string Z) W := fun W => by
    rw [← hY, ← hZ, ← hI2]
    have := cat_run (a := E.actor ++ [64]) (b := Lib.itoa E.pc) (by simp; omega) W
    rw [this]; simp
  simp only [hI1] at HI1
  simp only [hI2] at HI2
  have HI1B := Lib.hid hI1
  have HZB := Lib.hid hZ
  rw [hf] at hv
  have HF := Lib.hid hf
  clear hw hE hs hI1 hI2 hZ hY hal hpl hf
  obtain ⟨b, _, _, hve, hb, rfl, rfl⟩ := hv
  have HVE := Lib.hid hve
  clear hve
  have HBF := Lib.hid hb
  clear hb
  have htr : tellR r E = (tellF .word E).map fun t => headW r E ++ [t] := by unfold tellR; rw [HF.out]
  unfold TellR
  obtain ⟨x, hx⟩ : ∃ x, tellR r E = x := ⟨_, rfl⟩
  rw [hx]
  rw [hx] at htr
  have HX := Lib.hid htr
  clear htr hx
  have BW := World.alloc_heap_new w (.cells (rowA r v) 70)
  obtain ⟨w0, hw0⟩ : ∃ w0, w.alloc (.cells (rowA r v) 70) = w0 := ⟨_, rfl⟩
  obtain ⟨RB, hRB⟩ : ∃ RB, w.heap.size = RB := ⟨_, rfl⟩
  have HRB : Hid (RowBox w0 RB r v) := Lib.hid (by rw [← hw0, ← hRB]; exact BW)
  have T0 : Hid (Turn Nn w w0) := Lib.hid (by rw [← hw0]; exact (Turn.refl Nn w).alloc _)
  have HE0 := Lib.hid (HE.out.turn T0.out)
  have HW0 := Lib.hid (HW.out.turn T0.out)
  have hw0' : w.alloc (.cells #[.int .i64 r.kind, .int .i64 r.tag, .string (BT r.word), .string (BT r.msg), v] 70) = w0 := hw0
  clear BW hw0
  unfold rowA
  go_enter Tryz.func45, Tryz.ntmps45
  go_upto_region 1 with (fail)
  try rw [hw0']
  try rw [hRB]
  clear hw0' hRB
  refine held_begin (fun u => EvAt u B E ∧ RowBox u RB r v) (by kernel_rfl) ?_
  generalize hwd : World.drew w0 = wd
  have VD : Hid (Turn Nn w wd) := Lib.hid (by rw [← hwd]; exact T0.out.drew)
  have SD : Hid (EvAt wd B E ∧ RowBox wd RB r v) := Lib.hid (by rw [← hwd]; exact ⟨HE0.out, HRB.out⟩)
  have HWD : Hid (Laid wd) := Lib.hid (HW.out.turn VD.out)
  have FB : Hid (w0.heap[b]? = some (.cells #[.func (.func 92) #[] #[], .func (.func 93) #[] #[]] 95)) := Lib.hid ((T0.out.block b (heap_lt HBF.out) (fun h => h)).trans HBF.out)
  clear hwd
  refine held_take 0 ?_ rfl (by kernel_rfl) (by kernel_rfl) (by kernel_rfl) (fun _ _ _ h => h) (Or.inl ⟨by kernel_rfl, ?_⟩) SD.out ?_
  rotate_left 1
  · intro u hu; obtain ⟨hu1, hu2⟩ := hu; obtain ⟨y0, y1, y2, y3, y4, y5, y6, y7, y8⟩ := evCells hu1; obtain ⟨x0, x1, x2, x3, x4⟩ := rowCells hu2; go_simp; first | done | with_reducible rfl
  try simp only [Act.put, nA, nB, nC, nD, nE, nF]
  refine held_take 1 ?_ rfl (by kernel_rfl) (by kernel_rfl) (by kernel_rfl) (fun _ _ _ h => h) (Or.inl ⟨by kernel_rfl, ?_⟩) SD.out ?_
  rotate_left 1
  · intro u hu; obtain ⟨hu1, hu2⟩ := hu; obtain ⟨y0, y1, y2, y3, y4, y5, y6, y7, y8⟩ := evCells hu1; obtain ⟨x0, x1, x2, x3, x4⟩ := rowCells hu2; go_simp; first | done | with_reducible rfl
  try simp only [Act.put, nA, nB, nC, nD, nE, nF]
  refine held_take 2 ?_ rfl (by kernel_rfl) (by kernel_rfl) (by kernel_rfl) (fun _ _ _ h => h) (Or.inl ⟨by kernel_rfl, ?_⟩) SD.out ?_
  rotate_left 1
  · intro u hu; obtain ⟨hu1, hu2⟩ := hu; obtain ⟨y0, y1, y2, y3, y4, y5, y6, y7, y8⟩ := evCells hu1; obtain ⟨x0, x1, x2, x3, x4⟩ := rowCells hu2; go_simp; first | done | with_reducible rfl
  try simp only [Act.put, nA, nB, nC, nD, nE, nF]
  refine held_take 3 ?_ rfl (by kernel_rfl) (by kernel_rfl) (by kernel_rfl) (fun _ _ _ h => h) (Or.inl ⟨by kernel_rfl, ?_⟩) SD.out ?_
  rotate_left 1
  · intro u hu; obtain ⟨hu1, hu2⟩ := hu; obtain ⟨y0, y1, y2, y3, y4, y5, y6, y7, y8⟩ := evCells hu1; obtain ⟨x0, x1, x2, x3, x4⟩ := rowCells hu2; go_simp; first | done | with_reducible rfl
  try simp only [Act.put, nA, nB, nC, nD, nE, nF]
  refine held_take 5 ?_ rfl (by kernel_rfl) (by kernel_rfl) (by kernel_rfl) (fun _ _ _ h => h) (Or.inl ⟨by kernel_rfl, ?_⟩) SD.out ?_
  rotate_left 1
  · intro u hu; obtain ⟨hu1, hu2⟩ := hu; obtain ⟨y0, y1, y2, y3, y4, y5, y6, y7, y8⟩ := evCells hu1; obtain ⟨x0, x1, x2, x3, x4⟩ := rowCells hu2; go_simp; first | done | with_reducible rfl
  try simp only [Act.put, nA, nB, nC, nD, nE, nF]
  refine held_take 6 ?_ rfl (by kernel_rfl) (by kernel_rfl) (by kernel_rfl) (fun _ _ _ h => h) (Or.inl ⟨by kernel_rfl, ?_⟩) SD.out ?_
  rotate_left 1
  · intro u hu; obtain ⟨hu1, hu2⟩ := hu; obtain ⟨y0, y1, y2, y3, y4, y5, y6, y7, y8⟩ := evCells hu1; obtain ⟨x0, x1, x2, x3, x4⟩ := rowCells hu2; go_simp; first | done | with_reducible rfl
  try simp only [Act.put, nA, nB, nC, nD, nE, nF]
  refine held_take 7 ?_ rfl (by kernel_rfl) (by kernel_rfl) (by kernel_rfl) (fun _ _ _ h => h) (Or.inl ⟨by kernel_rfl, ?_⟩) SD.out ?_
  rotate_left 1
  · intro u hu; obtain ⟨hu1, hu2⟩ := hu; obtain ⟨y0, y1, y2, y3, y4, y5, y6, y7, y8⟩ := evCells hu1; obtain ⟨x0, x1, x2, x3, x4⟩ := rowCells hu2; go_simp; first | done | with_reducible rfl
  try simp only [Act.put, nA, nB, nC, nD, nE, nF]
  refine held_take 8 ?_ rfl (by kernel_rfl) (by kernel_rfl) (by kernel_rfl) (fun _ _ _ h => h) (Or.inl ⟨by kernel_rfl, ?_⟩) SD.out ?_
  rotate_left 1
  · intro u hu; obtain ⟨hu1, hu2⟩ := hu; obtain ⟨y0, y1, y2, y3, y4, y5, y6, y7, y8⟩ := evCells hu1; obtain ⟨x0, x1, x2, x3, x4⟩ := rowCells hu2; go_simp; first | done | with_reducible rfl
  try simp only [Act.put, nA, nB, nC, nD, nE, nF]
  refine held_take 9 ?_ rfl (by kernel_rfl) (by kernel_rfl) (by kernel_rfl) (fun _ _ _ h => h) (Or.inl ⟨by kernel_rfl, ?_⟩) SD.out ?_
  rotate_left 1
  · intro u hu; obtain ⟨hu1, hu2⟩ := hu; obtain ⟨y0, y1, y2, y3, y4, y5, y6, y7, y8⟩ := evCells hu1; obtain ⟨x0, x1, x2, x3, x4⟩ := rowCells hu2; go_simp; first | done | with_reducible rfl
  try simp only [Act.put, nA, nB, nC, nD, nE, nF]
  refine held_take 10 ?_ rfl (by kernel_rfl) (by kernel_rfl) (by kernel_rfl) (fun _ _ _ h => h) (Or.inl ⟨by kernel_rfl, ?_⟩) SD.out ?_
  rotate_left 1
  · intro u hu; obtain ⟨hu1, hu2⟩ := hu; obtain ⟨y0, y1, y2, y3, y4, y5, y6, y7, y8⟩ := evCells hu1; obtain ⟨x0, x1, x2, x3, x4⟩ := rowCells hu2; go_simp; first | done | with_reducible rfl
  try simp only [Act.put, nA, nB, nC, nD, nE, nF]
  refine held_take 11 ?_ rfl (by kernel_rfl) (by kernel_rfl) (by kernel_rfl) (fun _ _ _ h => h) (Or.inl ⟨by kernel_rfl, ?_⟩) SD.out ?_
  rotate_left 1
  · intro u hu; obtain ⟨hu1, hu2⟩ := hu; obtain ⟨y0, y1, y2, y3, y4, y5, y6, y7, y8⟩ := evCells hu1; obtain ⟨x0, x1, x2, x3, x4⟩ := rowCells hu2; go_simp; first | done | with_reducible rfl
  try simp only [Act.put, nA, nB, nC, nD, nE, nF]
  refine held_take 12 ?_ rfl (by kernel_rfl) (by kernel_rfl) (by kernel_rfl) (fun _ _ _ h => h) (Or.inl ⟨by kernel_rfl, ?_⟩) SD.out ?_
  rotate_left 1
  · intro u hu; obtain ⟨hu1, hu2⟩ := hu; obtain ⟨y0, y1, y2, y3, y4, y5, y6, y7, y8⟩ := evCells hu1; obtain ⟨x0, x1, x2, x3, x4⟩ := rowCells hu2; go_simp; first | done | with_reducible rfl
  try simp only [Act.put, nA, nB, nC, nD, nE, nF]
  refine held_take 13 ?_ rfl (by kernel_rfl) (by kernel_rfl) (by kernel_rfl) (fun _ _ _ h => h) (Or.inl ⟨by kernel_rfl, ?_⟩) SD.out ?_
  rotate_left 1
  · intro u hu; obtain ⟨hu1, hu2⟩ := hu; obtain ⟨y0, y1, y2, y3, y4, y5, y6, y7, y8⟩ := evCells hu1; obtain ⟨x0, x1, x2, x3, x4⟩ := rowCells hu2; go_simp; first | done | with_reducible rfl
  try simp only [Act.put, nA, nB, nC, nD, nE, nF]
  refine held_take 16 ?_ rfl (by kernel_rfl) (by kernel_rfl) (by kernel_rfl) (fun _ _ _ h => h) (Or.inl ⟨by kernel_rfl, ?_⟩) SD.out ?_
  rotate_left 1
  · intro u hu; obtain ⟨hu1, hu2⟩ := hu; obtain ⟨y0, y1, y2, y3, y4, y5, y6, y7, y8⟩ := evCells hu1; obtain ⟨x0, x1, x2, x3, x4⟩ := rowCells hu2; go_simp; first | done | with_reducible rfl
  try simp only [Act.put, nA, nB, nC, nD, nE, nF]
  refine held_take 17 ?_ rfl (by kernel_rfl) (by kernel_rfl) (by kernel_rfl) (fun _ _ _ h => h) (Or.inl ⟨by kernel_rfl, ?_⟩) SD.out ?_
  rotate_left 1
  · intro u hu; obtain ⟨hu1, hu2⟩ := hu; obtain ⟨y0, y1, y2, y3, y4, y5, y6, y7, y8⟩ := evCells hu1; obtain ⟨x0, x1, x2, x3, x4⟩ := rowCells hu2; go_simp; first | done | with_reducible rfl
  try simp only [Act.put, nA, nB, nC, nD, nE, nF]
  refine held_one 4 (by kernel_rfl) rfl (by kernel_rfl) (fun K hK => ?_)
  go_simp
  refine (HI1 _ HWD.out).out.mono ?_
  rintro e u1 ⟨rfl, t1⟩
  have V1 := Lib.hid (VD.out.trans t1)
  have S1 : Hid (EvAt u1 B E ∧ RowBox u1 RB r v) := Lib.hid ⟨SD.out.1.turn t1, SD.out.2.turn t1⟩
  clear t1
  refine hK _ _ S1.out ?_
  clear hK K
  try simp only [Act.put, nA, nB, nC, nD, nE, nF]
  refine held_one 14 (by kernel_rfl) rfl (by kernel_rfl) (fun K hK => ?_)
  go_simp
  refine (HI2 _ (HW.out.turn V1.out)).out.mono ?_
  rintro e u2 ⟨rfl, t2⟩
  have V2 := Lib.hid (V1.out.trans t2)
  have S2 : Hid (EvAt u2 B E ∧ RowBox u2 RB r v) := Lib.hid ⟨S1.out.1.turn t2, S1.out.2.turn t2⟩
  clear t2
  refine hK _ _ S2.out ?_
  clear hK K
  try simp only [Act.put, nA, nB, nC, nD, nE, nF]
  refine held_take 15 ?_ rfl (by kernel_rfl) (by kernel_rfl) (by kernel_rfl) (fun _ _ _ h => h) (Or.inl ⟨by kernel_rfl, ?_⟩) S2.out ?_
  rotate_left 1
  · intro u hu; obtain ⟨hu1, hu2⟩ := hu; obtain ⟨y0, y1, y2, y3, y4, y5, y6, y7, y8⟩ := evCells hu1; obtain ⟨x0, x1, x2, x3, x4⟩ := rowCells hu2; go_simp; first | done | with_reducible rfl
  try simp only [Act.put, nA, nB, nC, nD, nE, nF]
  obtain ⟨u3, hu3⟩ : ∃ u3, u2.alloc (.cells #[.string I1, .string Z, .string (BT r.word)] 9) = u3 := ⟨_, rfl⟩
  have OW3 : Hid (OWS w (.slice (some ⟨u2.heap.size, 0, none⟩) 3 3) (headW r E) u3) := Lib.hid (by rw [← hu3, ← HI1B.out, ← HZB.out]; exact OWS.lit3 V2.out _ _ _)
  have t3 : Turn Nn u2 u3 := by rw [← hu3]; exact (Turn.refl Nn u2).alloc _
  have V3 := Lib.hid (V2.out.trans t3)
  have S3 : Hid (EvAt u3 B E ∧ RowBox u3 RB r v) := Lib.hid ⟨S2.out.1.turn t3, S2.out.2.turn t3⟩
  clear t3
  refine held_one 18 (by kernel_rfl) rfl (by kernel_rfl) (fun K hK => ?_)
  go_simp
  refine hK _ _ S3.out ?_
  clear hK K
  try simp only [Act.put, nA, nB, nC, nD, nE, nF]
  clear hu3
  refine held_take 19 ?_ rfl (by kernel_rfl) (by kernel_rfl) (by kernel_rfl) (fun _ _ _ h => h) (Or.inl ⟨by kernel_rfl, ?_⟩) S3.out ?_
  rotate_left 1
  · intro u hu; obtain ⟨hu1, hu2⟩ := hu; obtain ⟨y0, y1, y2, y3, y4, y5, y6, y7, y8⟩ := evCells hu1; obtain ⟨x0, x1, x2, x3, x4⟩ := rowCells hu2; go_simp; first | done | with_reducible rfl
  try simp only [Act.put, nA, nB, nC, nD, nE, nF]
  refine wpAnyH_done (by kernel_rfl) ?_ _
  obtain ⟨n3, hn3⟩ : ∃ n, u2.heap.size = n := ⟨_, rfl⟩
  rw [hn3] at OW3 ⊢
  clear hn3
  obtain ⟨x0, x1, x2, x3, x4⟩ := rowCells S3.out.2
  rw [HVE.out] at x4
  have FB3 : Hid (u3.heap[b]? = some (.cells #[.func (.func 92) #[] #[], .func (.func 93) #[] #[]] 95)) := Lib.hid ((V3.out.block b (heap_lt HBF.out) (fun h => h)).trans HBF.out)
  have f0 : u3.cell? ⟨b, 0, none⟩ = some (.func (.func 92) #[] #[]) := cell_blk FB3.out
  have f1 : u3.cell? ⟨b, 1, none⟩ = some (.func (.func 93) #[] #[]) := cell_blk FB3.out
  obtain ⟨k1, k2, k3, e1, e2, e3, kb, tb⟩ := box95 u3 (t := .func (.func 92) #[] #[]) (r := .func (.func 93) #[] #[]) rfl rfl
  have g0 : k3.cell? ⟨u3.heap.size, 0, none⟩ = some (.func (.func 92) #[] #[]) := cell_blk kb
  have V4 := Lib.hid (V3.out.trans tb)
  have OW4 := Lib.hid (OW3.out.turn tb)
  have HT := Lib.hid (told_word HS.out (S3.out.1.turn tb) (HW.out.turn V4.out))
  clear kb tb
  go_wp2_with fail
  refine wp_loop_rounds 2 ?_
  rw [rounds_succ]
  go_wp2_with fail
  refine HT.out.mono ?_
  rintro e u5 ⟨he, t5⟩
  have V5 := Lib.hid (V4.out.trans t5)
  have OW5 := Lib.hid (OW4.out.turn t5)
  clear t5 f0 f1 e1 e2 e3 g0
  cases htl : tellF .word E with
  | none =>
    rw [htl] at he
    obtain rfl : e = badE := he
    obtain rfl : x = none := by rw [HX.out, htl]; rfl
    exact ⟨rfl, ⟨rfl, V5.out⟩⟩
  | some tx =>
    rw [htl] at he
    obtain rfl : e = .returned (.string (BT tx)) := he
    obtain rfl : x = some (headW r E ++ [tx]) := by rw [HX.out, htl]; rfl
    obtain ⟨pb, nb, cb, u6, hrun, hO⟩ := OW5.out.push tx 25 (by simp [headW])
    have HR := Lib.hid hrun
    have OW6 := Lib.hid hO
    clear hrun hO htl HX
    go_wp2_with (at_builtin; refine wpList_append_eq rfl _ _ 25 rfl _ _ rfl rfl HR.out ?_)
    rw [rounds_succ]
    go_wp2_with fail
    go_ret
    exact ⟨_, rfl, OW6.out⟩
set_option maxRecDepth 100000 in
set_option maxHeartbeats 16000000 in
theorem tell_one_made {r : RowD} {E : EventD} (hf : r.flds = [.made]) (hs : ESmall E) {B : Nat} {v : Value} {w : World} (hE : EvAt w B E) (hv : FSl w v r.flds) (hw : Laid w) :
    Calls Tryz.prog 45 #[.agg (rowA r v), .pointer (some ⟨B, 0, none⟩)] w (TellR w r E) := by
  have HW := Lib.hid hw
  have HE := Lib.hid hE
  have HS := Lib.hid hs
  have HI1 := fun w (h : Laid w) => Lib.hid (itoa_any hs.ints.slot h)
  have HI2 := fun w (h : Laid w) => Lib.hid (itoa_any hs.ints.pc h)
  obtain ⟨I1, hI1⟩ : ∃ I, BT (Lib.itoa E.slot) = I := ⟨_, rfl⟩
  obtain ⟨I2, hI2⟩ : ∃ I, BT (Lib.itoa E.pc) = I := ⟨_, rfl⟩
  obtain ⟨Z, hZ⟩ : ∃ Z, BT (E.actor ++ 64 :: Lib.itoa E.pc) = Z := ⟨_, rfl⟩
  obtain ⟨Y, hY⟩ : ∃ Y, BT (E.actor ++ [64]) = Y := ⟨_, rfl⟩
  have hal := hs.actor
  have hpl := itoa_len hs.ints.pc
  have hcat1 : ∀ W : World, (Op.stringOp .add (BT E.actor) ⟨#[64]⟩).run Tryz.prog W = .ok (.string Y) W := fun W => by
    rw [← hY]; exact cat_run (a := E.actor) (b := [64]) (by simp; omega) W
  have hcat2 : ∀ W : World, (Op.stringOp .add Y I2).run Tryz.prog W = .ok (.string Z) W := fun W => by
    rw [← hY, ← hZ, ← hI2]
    have := cat_run (a := E.actor ++ [64]) (b := Lib.itoa E.pc) (by simp; omega) W
    rw [this]; simp
  simp only [hI1] at HI1
  simp only [hI2] at HI2
  have HI1B := Lib.hid hI1
  have HZB := Lib.hid hZ
  rw [hf] at hv
  have HF := Lib.hid hf
  clear hw hE hs hI1 hI2 hZ hY hal hpl hf
  obtain ⟨b, _, _, hve, hb, rfl, rfl⟩ := hv
  have HVE := Lib.hid hve
  clear hve
  have HBF := Lib.hid hb
  clear hb
  have htr : tellR r E = (tellF .made E).map fun t => headW r E ++ [t] := by unfold tellR; rw [HF.out]
  unfold TellR
  obtain ⟨x, hx⟩ : ∃ x, tellR r E = x := ⟨_, rfl⟩
  rw [hx]
  rw [hx] at htr
  have HX := Lib.hid htr
  clear htr hx
  have BW := World.alloc_heap_new w (.cells (rowA r v) 70)
  obtain ⟨w0, hw0⟩ : ∃ w0, w.alloc (.cells (rowA r v) 70) = w0 := ⟨_, rfl⟩
  obtain ⟨RB, hRB⟩ : ∃ RB, w.heap.size = RB := ⟨_, rfl⟩
  have HRB : Hid (RowBox w0 RB r v) := Lib.hid (by rw [← hw0, ← hRB]; exact BW)
  have T0 : Hid (Turn Nn w w0) := Lib.hid (by rw [← hw0]; exact (Turn.refl Nn w).alloc _)
  have HE0 := Lib.hid (HE.out.turn T0.out)
  have HW0 := Lib.hid (HW.out.turn T0.out)
  have hw0' : w.alloc (.cells #[.int .i64 r.kind, .int .i64 r.tag, .string (BT r.word), .string (BT r.msg), v] 70) = w0 := hw0
  clear BW hw0
  unfold rowA
  go_enter Tryz.func45, Tryz.ntmps45
  go_upto_region 1 with (fail)
  try rw [hw0']
  try rw [hRB]
  clear hw0' hRB
  refine held_begin (fun u => EvAt u B E ∧ RowBox u RB r v) (by kernel_rfl) ?_
  generalize hwd : World.drew w0 = wd
  have VD : Hid (Turn Nn w wd) := Lib.hid (by rw [← hwd]; exact T0.out.drew)
  have SD : Hid (EvAt wd B E ∧ RowBox wd RB r v) := Lib.hid (by rw [← hwd]; exact ⟨HE0.out, HRB.out⟩)
  have HWD : Hid (Laid wd) := Lib.hid (HW.out.turn VD.out)
  have FB : Hid (w0.heap[b]? = some (.cells #[.func (.func 94) #[] #[], .func (.func 95) #[] #[]] 95)) := Lib.hid ((T0.out.block b (heap_lt HBF.out) (fun h => h)).trans HBF.out)
  clear hwd
  refine held_take 0 ?_ rfl (by kernel_rfl) (by kernel_rfl) (by kernel_rfl) (fun _ _ _ h => h) (Or.inl ⟨by kernel_rfl, ?_⟩) SD.out ?_
  rotate_left 1
  · intro u hu; obtain ⟨hu1, hu2⟩ := hu; obtain ⟨y0, y1, y2, y3, y4, y5, y6, y7, y8⟩ := evCells hu1; obtain ⟨x0, x1, x2, x3, x4⟩ := rowCells hu2; go_simp; first | done | with_reducible rfl
  try simp only [Act.put, nA, nB, nC, nD, nE, nF]
  refine held_take 1 ?_ rfl (by kernel_rfl) (by kernel_rfl) (by kernel_rfl) (fun _ _ _ h => h) (Or.inl ⟨by kernel_rfl, ?_⟩) SD.out ?_
  rotate_left 1
  · intro u hu; obtain ⟨hu1, hu2⟩ := hu; obtain ⟨y0, y1, y2, y3, y4, y5, y6, y7, y8⟩ := evCells hu1; obtain ⟨x0, x1, x2, x3, x4⟩ := rowCells hu2; go_simp; first | done | with_reducible rfl
  try simp only [Act.put, nA, nB, nC, nD, nE, nF]
  refine held_take 2 ?_ rfl (by kernel_rfl) (by kernel_rfl) (by kernel_rfl) (fun _ _ _ h => h) (Or.inl ⟨by kernel_rfl, ?_⟩) SD.out ?_
  rotate_left 1
  · intro u hu; obtain ⟨hu1, hu2⟩ := hu; obtain ⟨y0, y1, y2, y3, y4, y5, y6, y7, y8⟩ := evCells hu1; obtain ⟨x0, x1, x2, x3, x4⟩ := rowCells hu2; go_simp; first | done | with_reducible rfl
  try simp only [Act.put, nA, nB, nC, nD, nE, nF]
  refine held_take 3 ?_ rfl (by kernel_rfl) (by kernel_rfl) (by kernel_rfl) (fun _ _ _ h => h) (Or.inl ⟨by kernel_rfl, ?_⟩) SD.out ?_
  rotate_left 1
  · intro u hu; obtain ⟨hu1, hu2⟩ := hu; obtain ⟨y0, y1, y2, y3, y4, y5, y6, y7, y8⟩ := evCells hu1; obtain ⟨x0, x1, x2, x3, x4⟩ := rowCells hu2; go_simp; first | done | with_reducible rfl
  try simp only [Act.put, nA, nB, nC, nD, nE, nF]
  refine held_take 5 ?_ rfl (by kernel_rfl) (by kernel_rfl) (by kernel_rfl) (fun _ _ _ h => h) (Or.inl ⟨by kernel_rfl, ?_⟩) SD.out ?_
  rotate_left 1
  · intro u hu; obtain ⟨hu1, hu2⟩ := hu; obtain ⟨y0, y1, y2, y3, y4, y5, y6, y7, y8⟩ := evCells hu1; obtain ⟨x0, x1, x2, x3, x4⟩ := rowCells hu2; go_simp; first | done | with_reducible rfl
  try simp only [Act.put, nA, nB, nC, nD, nE, nF]
  refine held_take 6 ?_ rfl (by kernel_rfl) (by kernel_rfl) (by kernel_rfl) (fun _ _ _ h => h) (Or.inl ⟨by kernel_rfl, ?_⟩) SD.out ?_
  rotate_left 1
  · intro u hu; obtain ⟨hu1, hu2⟩ := hu; obtain ⟨y0, y1, y2, y3, y4, y5, y6, y7, y8⟩ := evCells hu1; obtain ⟨x0, x1, x2, x3, x4⟩ := rowCells hu2; go_simp; first | done | with_reducible rfl
  try simp only [Act.put, nA, nB, nC, nD, nE, nF]
  refine held_take 7 ?_ rfl (by kernel_rfl) (by kernel_rfl) (by kernel_rfl) (fun _ _ _ h => h) (Or.inl ⟨by kernel_rfl, ?_⟩) SD.out ?_
  rotate_left 1
  · intro u hu; obtain ⟨hu1, hu2⟩ := hu; obtain ⟨y0, y1, y2, y3, y4, y5, y6, y7, y8⟩ := evCells hu1; obtain ⟨x0, x1, x2, x3, x4⟩ := rowCells hu2; go_simp; first | done | with_reducible rfl
  try simp only [Act.put, nA, nB, nC, nD, nE, nF]
  refine held_take 8 ?_ rfl (by kernel_rfl) (by kernel_rfl) (by kernel_rfl) (fun _ _ _ h => h) (Or.inl ⟨by kernel_rfl, ?_⟩) SD.out ?_
  rotate_left 1
  · intro u hu; obtain ⟨hu1, hu2⟩ := hu; obtain ⟨y0, y1, y2, y3, y4, y5, y6, y7, y8⟩ := evCells hu1; obtain ⟨x0, x1, x2, x3, x4⟩ := rowCells hu2; go_simp; first | done | with_reducible rfl
  try simp only [Act.put, nA, nB, nC, nD, nE, nF]
  refine held_take 9 ?_ rfl (by kernel_rfl) (by kernel_rfl) (by kernel_rfl) (fun _ _ _ h => h) (Or.inl ⟨by kernel_rfl, ?_⟩) SD.out ?_
  rotate_left 1
  · intro u hu; obtain ⟨hu1, hu2⟩ := hu; obtain ⟨y0, y1, y2, y3, y4, y5, y6, y7, y8⟩ := evCells hu1; obtain ⟨x0, x1, x2, x3, x4⟩ := rowCells hu2; go_simp; first | done | with_reducible rfl
  try simp only [Act.put, nA, nB, nC, nD, nE, nF]
  refine held_take 10 ?_ rfl (by kernel_rfl) (by kernel_rfl) (by kernel_rfl) (fun _ _ _ h => h) (Or.inl ⟨by kernel_rfl, ?_⟩) SD.out ?_
  rotate_left 1
  · intro u hu; obtain ⟨hu1, hu2⟩ := hu; obtain ⟨y0, y1, y2, y3, y4, y5, y6, y7, y8⟩ := evCells hu1; obtain ⟨x0, x1, x2, x3, x4⟩ := rowCells hu2; go_simp; first | done | with_reducible rfl
  try simp only [Act.put, nA, nB, nC, nD, nE, nF]
  refine held_take 11 ?_ rfl (by kernel_rfl) (by kernel_rfl) (by kernel_rfl) (fun _ _ _ h => h) (Or.inl ⟨by kernel_rfl, ?_⟩) SD.out ?_
  rotate_left 1
  · intro u hu; obtain ⟨hu1, hu2⟩ := hu; obtain ⟨y0, y1, y2, y3, y4, y5, y6, y7, y8⟩ := evCells hu1; obtain ⟨x0, x1, x2, x3, x4⟩ := rowCells hu2; go_simp; first | done | with_reducible rfl
  try simp only [Act.put, nA, nB, nC, nD, nE, nF]
  refine held_take 12 ?_ rfl (by kernel_rfl) (by kernel_rfl) (by kernel_rfl) (fun _ _ _ h => h) (Or.inl ⟨by kernel_rfl, ?_⟩) SD.out ?_
  rotate_left 1
  · intro u hu; obtain ⟨hu1, hu2⟩ := hu; obtain ⟨y0, y1, y2, y3, y4, y5, y6, y7, y8⟩ := evCells hu1; obtain ⟨x0, x1, x2, x3, x4⟩ := rowCells hu2; go_simp; first | done | with_reducible rfl
  try simp only [Act.put, nA, nB, nC, nD, nE, nF]
  refine held_take 13 ?_ rfl (by kernel_rfl) (by kernel_rfl) (by kernel_rfl) (fun _ _ _ h => h) (Or.inl ⟨by kernel_rfl, ?_⟩) SD.out ?_
  rotate_left 1
  · intro u hu; obtain ⟨hu1, hu2⟩ := hu; obtain ⟨y0, y1, y2, y3, y4, y5, y6, y7, y8⟩ := evCells hu1; obtain ⟨x0, x1, x2, x3, x4⟩ := rowCells hu2; go_simp; first | done | with_reducible rfl
  try simp only [Act.put, nA, nB, nC, nD, nE, nF]
  refine held_take 16 ?_ rfl (by kernel_rfl) (by kernel_rfl) (by kernel_rfl) (fun _ _ _ h => h) (Or.inl ⟨by kernel_rfl, ?_⟩) SD.out ?_
  rotate_left 1
  · intro u hu; obtain ⟨hu1, hu2⟩ := hu; obtain ⟨y0, y1, y2, y3, y4, y5, y6, y7, y8⟩ := evCells hu1; obtain ⟨x0, x1, x2, x3, x4⟩ := rowCells hu2; go_simp; first | done | with_reducible rfl
  try simp only [Act.put, nA, nB, nC, nD, nE, nF]
  refine held_take 17 ?_ rfl (by kernel_rfl) (by kernel_rfl) (by kernel_rfl) (fun _ _ _ h => h) (Or.inl ⟨by kernel_rfl, ?_⟩) SD.out ?_
  rotate_left 1
  · intro u hu; obtain ⟨hu1, hu2⟩ := hu; obtain ⟨y0, y1, y2, y3, y4, y5, y6, y7, y8⟩ := evCells hu1; obtain ⟨x0, x1, x2, x3, x4⟩ := rowCells hu2; go_simp; first | done | with_reducible rfl
  try simp only [Act.put, nA, nB, nC, nD, nE, nF]
  refine held_one 4 (by kernel_rfl) rfl (by kernel_rfl) (fun K hK => ?_)
  go_simp
  refine (HI1 _ HWD.out).out.mono ?_
  rintro e u1 ⟨rfl, t1⟩
  have V1 := Lib.hid (VD.out.trans t1)
  have S1 : Hid (EvAt u1 B E ∧ RowBox u1 RB r v) := Lib.hid ⟨SD.out.1.turn t1, SD.out.2.turn t1⟩
  clear t1
  refine hK _ _ S1.out ?_
  clear hK K
  try simp only [Act.put, nA, nB, nC, nD, nE, nF]
  refine held_one 14 (by kernel_rfl) rfl (by kernel_rfl) (fun K hK => ?_)
  go_simp
  refine (HI2 _ (HW.out.turn V1.out)).out.mono ?_
  rintro e u2 ⟨rfl, t2⟩
  have V2 := Lib.hid (V1.out.trans t2)
  have S2 : Hid (EvAt u2 B E ∧ RowBox u2 RB r v) := Lib.hid ⟨S1.out.1.turn t2, S1.out.2.turn t2⟩
  clear t2
  refine hK _ _ S2.out ?_
  clear hK K
  try simp only [Act.put, nA, nB, nC, nD, nE, nF]
  refine held_take 15 ?_ rfl (by kernel_rfl) (by kernel_rfl) (by kernel_rfl) (fun _ _ _ h => h) (Or.inl ⟨by kernel_rfl, ?_⟩) S2.out ?_
  rotate_left 1
  · intro u hu; obtain ⟨hu1, hu2⟩ := hu; obtain ⟨y0, y1, y2, y3, y4, y5, y6, y7, y8⟩ := evCells hu1; obtain ⟨x0, x1, x2, x3, x4⟩ := rowCells hu2; go_simp; first | done | with_reducible rfl
  try simp only [Act.put, nA, nB, nC, nD, nE, nF]
  obtain ⟨u3, hu3⟩ : ∃ u3, u2.alloc (.cells #[.string I1, .string Z, .string (BT r.word)] 9) = u3 := ⟨_, rfl⟩
  have OW3 : Hid (OWS w (.slice (some ⟨u2.heap.size, 0, none⟩) 3 3) (headW r E) u3) := Lib.hid (by rw [← hu3, ← HI1B.out, ← HZB.out]; exact OWS.lit3 V2.out _ _ _)
  have t3 : Turn Nn u2 u3 := by rw [← hu3]; exact (Turn.refl Nn u2).alloc _
  have V3 := Lib.hid (V2.out.trans t3)
  have S3 : Hid (EvAt u3 B E ∧ RowBox u3 RB r v) := Lib.hid ⟨S2.out.1.turn t3, S2.out.2.turn t3⟩
  clear t3
  refine held_one 18 (by kernel_rfl) rfl (by kernel_rfl) (fun K hK => ?_)
  go_simp
  refine hK _ _ S3.out ?_
  clear hK K
  try simp only [Act.put, nA, nB, nC, nD, nE, nF]
  clear hu3
  refine held_take 19 ?_ rfl (by kernel_rfl) (by kernel_rfl) (by kernel_rfl) (fun _ _ _ h => h) (Or.inl ⟨by kernel_rfl, ?_⟩) S3.out ?_
  rotate_left 1
  · intro u hu; obtain ⟨hu1, hu2⟩ := hu; obtain ⟨y0, y1, y2, y3, y4, y5, y6, y7, y8⟩ := evCells hu1; obtain ⟨x0, x1, x2, x3, x4⟩ := rowCells hu2; go_simp; first | done | with_reducible rfl
  try simp only [Act.put, nA, nB, nC, nD, nE, nF]
  refine wpAnyH_done (by kernel_rfl) ?_ _
  obtain ⟨n3, hn3⟩ : ∃ n, u2.heap.size = n := ⟨_, rfl⟩
  rw [hn3] at OW3 ⊢
  clear hn3
  obtain ⟨x0, x1, x2, x3, x4⟩ := rowCells S3.out.2
  rw [HVE.out] at x4
  have FB3 : Hid (u3.heap[b]? = some (.cells #[.func (.func 94) #[] #[], .func (.func 95) #[] #[]] 95)) := Lib.hid ((V3.out.block b (heap_lt HBF.out) (fun h => h)).trans HBF.out)
  have f0 : u3.cell? ⟨b, 0, none⟩ = some (.func (.func 94) #[] #[]) := cell_blk FB3.out
  have f1 : u3.cell? ⟨b, 1, none⟩ = some (.func (.func 95) #[] #[]) := cell_blk FB3.out
  obtain ⟨k1, k2, k3, e1, e2, e3, kb, tb⟩ := box95 u3 (t := .func (.func 94) #[] #[]) (r := .func (.func 95) #[] #[]) rfl rfl
  have g0 : k3.cell? ⟨u3.heap.size, 0, none⟩ = some (.func (.func 94) #[] #[]) := cell_blk kb
  have V4 := Lib.hid (V3.out.trans tb)
  have OW4 := Lib.hid (OW3.out.turn tb)
  have HT := Lib.hid (told_made HS.out (S3.out.1.turn tb) (HW.out.turn V4.out))
  clear kb tb
  go_wp2_with fail
  refine wp_loop_rounds 2 ?_
  rw [rounds_succ]
  go_wp2_with fail
  refine HT.out.mono ?_
  rintro e u5 ⟨he, t5⟩
  have V5 := Lib.hid (V4.out.trans t5)
  have OW5 := Lib.hid (OW4.out.turn t5)
  clear t5 f0 f1 e1 e2 e3 g0
  cases htl : tellF .made E with
  | none =>
    rw [htl] at he
    obtain rfl : e = badE := he
    obtain rfl : x = none := by rw [HX.out, htl]; rfl
    exact ⟨rfl, ⟨rfl, V5.out⟩⟩
  | some tx =>
    rw [htl] at he
    obtain rfl : e = .returned (.string (BT tx)) := he
    obtain rfl : x = some (headW r E ++ [tx]) := by rw [HX.out, htl]; rfl
    obtain ⟨pb, nb, cb, u6, hrun, hO⟩ := OW5.out.push tx 25 (by simp [headW])
    have HR := Lib.hid hrun
    have OW6 := Lib.hid hO
    clear hrun hO htl HX
    go_wp2_with (at_builtin; refine wpList_append_eq rfl _ _ 25 rfl _ _ rfl rfl HR.out ?_)
    rw [rounds_succ]
    go_wp2_with fail
    go_ret
    exact ⟨_, rfl, OW6.out⟩
set_option maxRecDepth 100000 in
set_option maxHeartbeats 16000000 in
theorem tell_one_child {r : RowD} {E : EventD} (hf : r.flds = [.child]) (hs : ESmall E) {B : Nat} {v : Value} {w : World} (hE : EvAt w B E) (hv : FSl w v r.flds) (hw : Laid w) :
    Calls Tryz.prog 45 #[.agg (rowA r v), .pointer (some ⟨B, 0, none⟩)] w (TellR w r E) := by
  have HW := Lib.hid hw
  have HE := Lib.hid hE
  have HS := Lib.hid hs
  have HI1 := fun w (h : Laid w) => Lib.hid (itoa_any hs.ints.slot h)
  have HI2 := fun w (h : Laid w) => Lib.hid (itoa_any hs.ints.pc h)
  obtain ⟨I1, hI1⟩ : ∃ I, BT (Lib.itoa E.slot) = I := ⟨_, rfl⟩
  obtain ⟨I2, hI2⟩ : ∃ I, BT (Lib.itoa E.pc) = I := ⟨_, rfl⟩
  obtain ⟨Z, hZ⟩ : ∃ Z, BT (E.actor ++ 64 :: Lib.itoa E.pc) = Z := ⟨_, rfl⟩
  obtain ⟨Y, hY⟩ : ∃ Y, BT (E.actor ++ [64]) = Y := ⟨_, rfl⟩
  have hal := hs.actor
  have hpl := itoa_len hs.ints.pc
  have hcat1 : ∀ W : World, (Op.stringOp .add (BT E.actor) ⟨#[64]⟩).run Tryz.prog W = .ok (.string Y) W := fun W => by
    rw [← hY]; exact cat_run (a := E.actor) (b := [64]) (by simp; omega) W
  have hcat2 : ∀ W : World, (Op.stringOp .add Y I2).run Tryz.prog W = .ok (.string Z) W := fun W => by
    rw [← hY, ← hZ, ← hI2]
    have := cat_run (a := E.actor ++ [64]) (b := Lib.itoa E.pc) (by simp; omega) W
    rw [this]; simp
  simp only [hI1] at HI1
  simp only [hI2] at HI2
  have HI1B := Lib.hid hI1
  have HZB := Lib.hid hZ
  rw [hf] at hv
  have HF := Lib.hid hf
  clear hw hE hs hI1 hI2 hZ hY hal hpl hf
  obtain ⟨b, _, _, hve, hb, rfl, rfl⟩ := hv
  have HVE := Lib.hid hve
  clear hve
  have HBF := Lib.hid hb
  clear hb
  have htr : tellR r E = (tellF .child E).map fun t => headW r E ++ [t] := by unfold tellR; rw [HF.out]
  unfold TellR
  obtain ⟨x, hx⟩ : ∃ x, tellR r E = x := ⟨_, rfl⟩
  rw [hx]
  rw [hx] at htr
  have HX := Lib.hid htr
  clear htr hx
  have BW := World.alloc_heap_new w (.cells (rowA r v) 70)
  obtain ⟨w0, hw0⟩ : ∃ w0, w.alloc (.cells (rowA r v) 70) = w0 := ⟨_, rfl⟩
  obtain ⟨RB, hRB⟩ : ∃ RB, w.heap.size = RB := ⟨_, rfl⟩
  have HRB : Hid (RowBox w0 RB r v) := Lib.hid (by rw [← hw0, ← hRB]; exact BW)
  have T0 : Hid (Turn Nn w w0) := Lib.hid (by rw [← hw0]; exact (Turn.refl Nn w).alloc _)
  have HE0 := Lib.hid (HE.out.turn T0.out)
  have HW0 := Lib.hid (HW.out.turn T0.out)
  have hw0' : w.alloc (.cells #[.int .i64 r.kind, .int .i64 r.tag, .string (BT r.word), .string (BT r.msg), v] 70) = w0 := hw0
  clear BW hw0
  unfold rowA
  go_enter Tryz.func45, Tryz.ntmps45
  go_upto_region 1 with (fail)
  try rw [hw0']
  try rw [hRB]
  clear hw0' hRB
  refine held_begin (fun u => EvAt u B E ∧ RowBox u RB r v) (by kernel_rfl) ?_
  generalize hwd : World.drew w0 = wd
  have VD : Hid (Turn Nn w wd) := Lib.hid (by rw [← hwd]; exact T0.out.drew)
  have SD : Hid (EvAt wd B E ∧ RowBox wd RB r v) := Lib.hid (by rw [← hwd]; exact ⟨HE0.out, HRB.out⟩)
  have HWD : Hid (Laid wd) := Lib.hid (HW.out.turn VD.out)
  have FB : Hid (w0.heap[b]? = some (.cells #[.func (.func 96) #[] #[], .func (.func 97) #[] #[]] 95)) := Lib.hid ((T0.out.block b (heap_lt HBF.out) (fun h => h)).trans HBF.out)
  clear hwd
  refine held_take 0 ?_ rfl (by kernel_rfl) (by kernel_rfl) (by kernel_rfl) (fun _ _ _ h => h) (Or.inl ⟨by kernel_rfl, ?_⟩) SD.out ?_
  rotate_left 1
  · intro u hu; obtain ⟨hu1, hu2⟩ := hu; obtain ⟨y0, y1, y2, y3, y4, y5, y6, y7, y8⟩ := evCells hu1; obtain ⟨x0, x1, x2, x3, x4⟩ := rowCells hu2; go_simp; first | done | with_reducible rfl
  try simp only [Act.put, nA, nB, nC, nD, nE, nF]
  refine held_take 1 ?_ rfl (by kernel_rfl) (by kernel_rfl) (by kernel_rfl) (fun _ _ _ h => h) (Or.inl ⟨by kernel_rfl, ?_⟩) SD.out ?_
  rotate_left 1
  · intro u hu; obtain ⟨hu1, hu2⟩ := hu; obtain ⟨y0, y1, y2, y3, y4, y5, y6, y7, y8⟩ := evCells hu1; obtain ⟨x0, x1, x2, x3, x4⟩ := rowCells hu2; go_simp; first | done | with_reducible rfl
  try simp only [Act.put, nA, nB, nC, nD, nE, nF]
  refine held_take 2 ?_ rfl (by kernel_rfl) (by kernel_rfl) (by kernel_rfl) (fun _ _ _ h => h) (Or.inl ⟨by kernel_rfl, ?_⟩) SD.out ?_
  rotate_left 1
  · intro u hu; obtain ⟨hu1, hu2⟩ := hu; obtain ⟨y0, y1, y2, y3, y4, y5, y6, y7, y8⟩ := evCells hu1; obtain ⟨x0, x1, x2, x3, x4⟩ := rowCells hu2; go_simp; first | done | with_reducible rfl
  try simp only [Act.put, nA, nB, nC, nD, nE, nF]
  refine held_take 3 ?_ rfl (by kernel_rfl) (by kernel_rfl) (by kernel_rfl) (fun _ _ _ h => h) (Or.inl ⟨by kernel_rfl, ?_⟩) SD.out ?_
  rotate_left 1
  · intro u hu; obtain ⟨hu1, hu2⟩ := hu; obtain ⟨y0, y1, y2, y3, y4, y5, y6, y7, y8⟩ := evCells hu1; obtain ⟨x0, x1, x2, x3, x4⟩ := rowCells hu2; go_simp; first | done | with_reducible rfl
  try simp only [Act.put, nA, nB, nC, nD, nE, nF]
  refine held_take 5 ?_ rfl (by kernel_rfl) (by kernel_rfl) (by kernel_rfl) (fun _ _ _ h => h) (Or.inl ⟨by kernel_rfl, ?_⟩) SD.out ?_
  rotate_left 1
  · intro u hu; obtain ⟨hu1, hu2⟩ := hu; obtain ⟨y0, y1, y2, y3, y4, y5, y6, y7, y8⟩ := evCells hu1; obtain ⟨x0, x1, x2, x3, x4⟩ := rowCells hu2; go_simp; first | done | with_reducible rfl
  try simp only [Act.put, nA, nB, nC, nD, nE, nF]
  refine held_take 6 ?_ rfl (by kernel_rfl) (by kernel_rfl) (by kernel_rfl) (fun _ _ _ h => h) (Or.inl ⟨by kernel_rfl, ?_⟩) SD.out ?_
  rotate_left 1
  · intro u hu; obtain ⟨hu1, hu2⟩ := hu; obtain ⟨y0, y1, y2, y3, y4, y5, y6, y7, y8⟩ := evCells hu1; obtain ⟨x0, x1, x2, x3, x4⟩ := rowCells hu2; go_simp; first | done | with_reducible rfl
  try simp only [Act.put, nA, nB, nC, nD, nE, nF]
  refine held_take 7 ?_ rfl (by kernel_rfl) (by kernel_rfl) (by kernel_rfl) (fun _ _ _ h => h) (Or.inl ⟨by kernel_rfl, ?_⟩) SD.out ?_
  rotate_left 1
  · intro u hu; obtain ⟨hu1, hu2⟩ := hu; obtain ⟨y0, y1, y2, y3, y4, y5, y6, y7, y8⟩ := evCells hu1; obtain ⟨x0, x1, x2, x3, x4⟩ := rowCells hu2; go_simp; first | done | with_reducible rfl
  try simp only [Act.put, nA, nB, nC, nD, nE, nF]
  refine held_take 8 ?_ rfl (by kernel_rfl) (by kernel_rfl) (by kernel_rfl) (fun _ _ _ h => h) (Or.inl ⟨by kernel_rfl, ?_⟩) SD.out ?_
  rotate_left 1
  · intro u hu; obtain ⟨hu1, hu2⟩ := hu; obtain ⟨y0, y1, y2, y3, y4, y5, y6, y7, y8⟩ := evCells hu1; obtain ⟨x0, x1, x2, x3, x4⟩ := rowCells hu2; go_simp; first | done | with_reducible rfl
  try simp only [Act.put, nA, nB, nC, nD, nE, nF]
  refine held_take 9 ?_ rfl (by kernel_rfl) (by kernel_rfl) (by kernel_rfl) (fun _ _ _ h => h) (Or.inl ⟨by kernel_rfl, ?_⟩) SD.out ?_
  rotate_left 1
  · intro u hu; obtain ⟨hu1, hu2⟩ := hu; obtain ⟨y0, y1, y2, y3, y4, y5, y6, y7, y8⟩ := evCells hu1; obtain ⟨x0, x1, x2, x3, x4⟩ := rowCells hu2; go_simp; first | done | with_reducible rfl
  try simp only [Act.put, nA, nB, nC, nD, nE, nF]
  refine held_take 10 ?_ rfl (by kernel_rfl) (by kernel_rfl) (by kernel_rfl) (fun _ _ _ h => h) (Or.inl ⟨by kernel_rfl, ?_⟩) SD.out ?_
  rotate_left 1
  · intro u hu; obtain ⟨hu1, hu2⟩ := hu; obtain ⟨y0, y1, y2, y3, y4, y5, y6, y7, y8⟩ := evCells hu1; obtain ⟨x0, x1, x2, x3, x4⟩ := rowCells hu2; go_simp; first | done | with_reducible rfl
  try simp only [Act.put, nA, nB, nC, nD, nE, nF]
  refine held_take 11 ?_ rfl (by kernel_rfl) (by kernel_rfl) (by kernel_rfl) (fun _ _ _ h => h) (Or.inl ⟨by kernel_rfl, ?_⟩) SD.out ?_
  rotate_left 1
  · intro u hu; obtain ⟨hu1, hu2⟩ := hu; obtain ⟨y0, y1, y2, y3, y4, y5, y6, y7, y8⟩ := evCells hu1; obtain ⟨x0, x1, x2, x3, x4⟩ := rowCells hu2; go_simp; first | done | with_reducible rfl
  try simp only [Act.put, nA, nB, nC, nD, nE, nF]
  refine held_take 12 ?_ rfl (by kernel_rfl) (by kernel_rfl) (by kernel_rfl) (fun _ _ _ h => h) (Or.inl ⟨by kernel_rfl, ?_⟩) SD.out ?_
  rotate_left 1
  · intro u hu; obtain ⟨hu1, hu2⟩ := hu; obtain ⟨y0, y1, y2, y3, y4, y5, y6, y7, y8⟩ := evCells hu1; obtain ⟨x0, x1, x2, x3, x4⟩ := rowCells hu2; go_simp; first | done | with_reducible rfl
  try simp only [Act.put, nA, nB, nC, nD, nE, nF]
  refine held_take 13 ?_ rfl (by kernel_rfl) (by kernel_rfl) (by kernel_rfl) (fun _ _ _ h => h) (Or.inl ⟨by kernel_rfl, ?_⟩) SD.out ?_
  rotate_left 1
  · intro u hu; obtain ⟨hu1, hu2⟩ := hu; obtain ⟨y0, y1, y2, y3, y4, y5, y6, y7, y8⟩ := evCells hu1; obtain ⟨x0, x1, x2, x3, x4⟩ := rowCells hu2; go_simp; first | done | with_reducible rfl
  try simp only [Act.put, nA, nB, nC, nD, nE, nF]
  refine held_take 16 ?_ rfl (by kernel_rfl) (by kernel_rfl) (by kernel_rfl) (fun _ _ _ h => h) (Or.inl ⟨by kernel_rfl, ?_⟩) SD.out ?_
  rotate_left 1
  · intro u hu; obtain ⟨hu1, hu2⟩ := hu; obtain ⟨y0, y1, y2, y3, y4, y5, y6, y7, y8⟩ := evCells hu1; obtain ⟨x0, x1, x2, x3, x4⟩ := rowCells hu2; go_simp; first | done | with_reducible rfl
  try simp only [Act.put, nA, nB, nC, nD, nE, nF]
  refine held_take 17 ?_ rfl (by kernel_rfl) (by kernel_rfl) (by kernel_rfl) (fun _ _ _ h => h) (Or.inl ⟨by kernel_rfl, ?_⟩) SD.out ?_
  rotate_left 1
  · intro u hu; obtain ⟨hu1, hu2⟩ := hu; obtain ⟨y0, y1, y2, y3, y4, y5, y6, y7, y8⟩ := evCells hu1; obtain ⟨x0, x1, x2, x3, x4⟩ := rowCells hu2; go_simp; first | done | with_reducible rfl
  try simp only [Act.put, nA, nB, nC, nD, nE, nF]
  refine held_one 4 (by kernel_rfl) rfl (by kernel_rfl) (fun K hK => ?_)
  go_simp
  refine (HI1 _ HWD.out).out.mono ?_
  rintro e u1 ⟨rfl, t1⟩
  have V1 := Lib.hid (VD.out.trans t1)
  have S1 : Hid (EvAt u1 B E ∧ RowBox u1 RB r v) := Lib.hid ⟨SD.out.1.turn t1, SD.out.2.turn t1⟩
  clear t1
  refine hK _ _ S1.out ?_
  clear hK K
  try simp only [Act.put, nA, nB, nC, nD, nE, nF]
  refine held_one 14 (by kernel_rfl) rfl (by kernel_rfl) (fun K hK => ?_)
  go_simp
  refine (HI2 _ (HW.out.turn V1.out)).out.mono ?_
  rintro e u2 ⟨rfl, t2⟩
  have V2 := Lib.hid (V1.out.trans t2)
  have S2 : Hid (EvAt u2 B E ∧ RowBox u2 RB r v) := Lib.hid ⟨S1.out.1.turn t2, S1.out.2.turn t2⟩
  clear t2
  refine hK _ _ S2.out ?_
  clear hK K
  try simp only [Act.put, nA, nB, nC, nD, nE, nF]
  refine held_take 15 ?_ rfl (by kernel_rfl) (by kernel_rfl) (by kernel_rfl) (fun _ _ _ h => h) (Or.inl ⟨by kernel_rfl, ?_⟩) S2.out ?_
  rotate_left 1
  · intro u hu; obtain ⟨hu1, hu2⟩ := hu; obtain ⟨y0, y1, y2, y3, y4, y5, y6, y7, y8⟩ := evCells hu1; obtain ⟨x0, x1, x2, x3, x4⟩ := rowCells hu2; go_simp; first | done | with_reducible rfl
  try simp only [Act.put, nA, nB, nC, nD, nE, nF]
  obtain ⟨u3, hu3⟩ : ∃ u3, u2.alloc (.cells #[.string I1, .string Z, .string (BT r.word)] 9) = u3 := ⟨_, rfl⟩
  have OW3 : Hid (OWS w (.slice (some ⟨u2.heap.size, 0, none⟩) 3 3) (headW r E) u3) := Lib.hid (by rw [← hu3, ← HI1B.out, ← HZB.out]; exact OWS.lit3 V2.out _ _ _)
  have t3 : Turn Nn u2 u3 := by rw [← hu3]; exact (Turn.refl Nn u2).alloc _
  have V3 := Lib.hid (V2.out.trans t3)
  have S3 : Hid (EvAt u3 B E ∧ RowBox u3 RB r v) := Lib.hid ⟨S2.out.1.turn t3, S2.out.2.turn t3⟩
  clear t3
  refine held_one 18 (by kernel_rfl) rfl (by kernel_rfl) (fun K hK => ?_)
  go_simp
  refine hK _ _ S3.out ?_
  clear hK K
  try simp only [Act.put, nA, nB, nC, nD, nE, nF]
  clear hu3
  refine held_take 19 ?_ rfl (by kernel_rfl) (by kernel_rfl) (by kernel_rfl) (fun _ _ _ h => h) (Or.inl ⟨by kernel_rfl, ?_⟩) S3.out ?_
  rotate_left 1
  · intro u hu; obtain ⟨hu1, hu2⟩ := hu; obtain ⟨y0, y1, y2, y3, y4, y5, y6, y7, y8⟩ := evCells hu1; obtain ⟨x0, x1, x2, x3, x4⟩ := rowCells hu2; go_simp; first | done | with_reducible rfl
  try simp only [Act.put, nA, nB, nC, nD, nE, nF]
  refine wpAnyH_done (by kernel_rfl) ?_ _
  obtain ⟨n3, hn3⟩ : ∃ n, u2.heap.size = n := ⟨_, rfl⟩
  rw [hn3] at OW3 ⊢
  clear hn3
  obtain ⟨x0, x1, x2, x3, x4⟩ := rowCells S3.out.2
  rw [HVE.out] at x4
  have FB3 : Hid (u3.heap[b]? = some (.cells #[.func (.func 96) #[] #[], .func (.func 97) #[] #[]] 95)) := Lib.hid ((V3.out.block b (heap_lt HBF.out) (fun h => h)).trans HBF.out)
  have f0 : u3.cell? ⟨b, 0, none⟩ = some (.func (.func 96) #[] #[]) := cell_blk FB3.out
  have f1 : u3.cell? ⟨b, 1, none⟩ = some (.func (.func 97) #[] #[]) := cell_blk FB3.out
  obtain ⟨k1, k2, k3, e1, e2, e3, kb, tb⟩ := box95 u3 (t := .func (.func 96) #[] #[]) (r := .func (.func 97) #[] #[]) rfl rfl
  have g0 : k3.cell? ⟨u3.heap.size, 0, none⟩ = some (.func (.func 96) #[] #[]) := cell_blk kb
  have V4 := Lib.hid (V3.out.trans tb)
  have OW4 := Lib.hid (OW3.out.turn tb)
  have HT := Lib.hid (told_child HS.out (S3.out.1.turn tb) (HW.out.turn V4.out))
  clear kb tb
  go_wp2_with fail
  refine wp_loop_rounds 2 ?_
  rw [rounds_succ]
  go_wp2_with fail
  refine HT.out.mono ?_
  rintro e u5 ⟨he, t5⟩
  have V5 := Lib.hid (V4.out.trans t5)
  have OW5 := Lib.hid (OW4.out.turn t5)
  clear t5 f0 f1 e1 e2 e3 g0
  cases htl : tellF .child E with
  | none =>
    rw [htl] at he
    obtain rfl : e = badE := he
    obtain rfl : x = none := by rw [HX.out, htl]; rfl
    exact ⟨rfl, ⟨rfl, V5.out⟩⟩
  | some tx =>
    rw [htl] at he
    obtain rfl : e = .returned (.string (BT tx)) := he
    obtain rfl : x = some (headW r E ++ [tx]) := by rw [HX.out, htl]; rfl
    obtain ⟨pb, nb, cb, u6, hrun, hO⟩ := OW5.out.push tx 25 (by simp [headW])
    have HR := Lib.hid hrun
    have OW6 := Lib.hid hO
    clear hrun hO htl HX
    go_wp2_with (at_builtin; refine wpList_append_eq rfl _ _ 25 rfl _ _ rfl rfl HR.out ?_)
    rw [rounds_succ]
    go_wp2_with fail
    go_ret
    exact ⟨_, rfl, OW6.out⟩
set_option maxRecDepth 100000 in
set_option maxHeartbeats 16000000 in
theorem tell_one_place {r : RowD} {E : EventD} (hf : r.flds = [.place]) (hs : ESmall E) {B : Nat} {v : Value} {w : World} (hE : EvAt w B E) (hv : FSl w v r.flds) (hw : Laid w) :
    Calls Tryz.prog 45 #[.agg (rowA r v), .pointer (some ⟨B, 0, none⟩)] w (TellR w r E) := by
  have HW := Lib.hid hw
  have HE := Lib.hid hE
  have HS := Lib.hid hs
  have HI1 := fun w (h : Laid w) => Lib.hid (itoa_any hs.ints.slot h)
  have HI2 := fun w (h : Laid w) => Lib.hid (itoa_any hs.ints.pc h)
  obtain ⟨I1, hI1⟩ : ∃ I, BT (Lib.itoa E.slot) = I := ⟨_, rfl⟩
  obtain ⟨I2, hI2⟩ : ∃ I, BT (Lib.itoa E.pc) = I := ⟨_, rfl⟩
  obtain ⟨Z, hZ⟩ : ∃ Z, BT (E.actor ++ 64 :: Lib.itoa E.pc) = Z := ⟨_, rfl⟩
  obtain ⟨Y, hY⟩ : ∃ Y, BT (E.actor ++ [64]) = Y := ⟨_, rfl⟩
  have hal := hs.actor
  have hpl := itoa_len hs.ints.pc
  have hcat1 : ∀ W : World, (Op.stringOp .add (BT E.actor) ⟨#[64]⟩).run Tryz.prog W = .ok (.string Y) W := fun W => by
    rw [← hY]; exact cat_run (a := E.actor) (b := [64]) (by simp; omega) W
  have hcat2 : ∀ W : World, (Op.stringOp .add Y I2).run Tryz.prog W = .ok (.string Z) W := fun W => by
    rw [← hY, ← hZ, ← hI2]
    have := cat_run (a := E.actor ++ [64]) (b := Lib.itoa E.pc) (by simp; omega) W
    rw [this]; simp
  simp only [hI1] at HI1
  simp only [hI2] at HI2
  have HI1B := Lib.hid hI1
  have HZB := Lib.hid hZ
  rw [hf] at hv
  have HF := Lib.hid hf
  clear hw hE hs hI1 hI2 hZ hY hal hpl hf
  obtain ⟨b, _, _, hve, hb, rfl, rfl⟩ := hv
  have HVE := Lib.hid hve
  clear hve
  have HBF := Lib.hid hb
  clear hb
  have htr : tellR r E = (tellF .place E).map fun t => headW r E ++ [t] := by unfold tellR; rw [HF.out]
  unfold TellR
  obtain ⟨x, hx⟩ : ∃ x, tellR r E = x := ⟨_, rfl⟩
  rw [hx]
  rw [hx] at htr
  have HX := Lib.hid htr
  clear htr hx
  have BW := World.alloc_heap_new w (.cells (rowA r v) 70)
  obtain ⟨w0, hw0⟩ : ∃ w0, w.alloc (.cells (rowA r v) 70) = w0 := ⟨_, rfl⟩
  obtain ⟨RB, hRB⟩ : ∃ RB, w.heap.size = RB := ⟨_, rfl⟩
  have HRB : Hid (RowBox w0 RB r v) := Lib.hid (by rw [← hw0, ← hRB]; exact BW)
  have T0 : Hid (Turn Nn w w0) := Lib.hid (by rw [← hw0]; exact (Turn.refl Nn w).alloc _)
  have HE0 := Lib.hid (HE.out.turn T0.out)
  have HW0 := Lib.hid (HW.out.turn T0.out)
  have hw0' : w.alloc (.cells #[.int .i64 r.kind, .int .i64 r.tag, .string (BT r.word), .string (BT r.msg), v] 70) = w0 := hw0
  clear BW hw0
  unfold rowA
  go_enter Tryz.func45, Tryz.ntmps45
  go_upto_region 1 with (fail)
  try rw [hw0']
  try rw [hRB]
  clear hw0' hRB
  refine held_begin (fun u => EvAt u B E ∧ RowBox u RB r v) (by kernel_rfl) ?_
  generalize hwd : World.drew w0 = wd
  have VD : Hid (Turn Nn w wd) := Lib.hid (by rw [← hwd]; exact T0.out.drew)
  have SD : Hid (EvAt wd B E ∧ RowBox wd RB r v) := Lib.hid (by rw [← hwd]; exact ⟨HE0.out, HRB.out⟩)
  have HWD : Hid (Laid wd) := Lib.hid (HW.out.turn VD.out)
  have FB : Hid (w0.heap[b]? = some (.cells #[.func (.func 98) #[] #[], .func (.func 99) #[] #[]] 95)) := Lib.hid ((T0.out.block b (heap_lt HBF.out) (fun h => h)).trans HBF.out)
  clear hwd
  refine held_take 0 ?_ rfl (by kernel_rfl) (by kernel_rfl) (by kernel_rfl) (fun _ _ _ h => h) (Or.inl ⟨by kernel_rfl, ?_⟩) SD.out ?_
  rotate_left 1
  · intro u hu; obtain ⟨hu1, hu2⟩ := hu; obtain ⟨y0, y1, y2, y3, y4, y5, y6, y7, y8⟩ := evCells hu1; obtain ⟨x0, x1, x2, x3, x4⟩ := rowCells hu2; go_simp; first | done | with_reducible rfl
  try simp only [Act.put, nA, nB, nC, nD, nE, nF]
  refine held_take 1 ?_ rfl (by kernel_rfl) (by kernel_rfl) (by kernel_rfl) (fun _ _ _ h => h) (Or.inl ⟨by kernel_rfl, ?_⟩) SD.out ?_
  rotate_left 1
  · intro u hu; obtain ⟨hu1, hu2⟩ := hu; obtain ⟨y0, y1, y2, y3, y4, y5, y6, y7, y8⟩ := evCells hu1; obtain ⟨x0, x1, x2, x3, x4⟩ := rowCells hu2; go_simp; first | done | with_reducible rfl
  try simp only [Act.put, nA, nB, nC, nD, nE, nF]
  refine held_take 2 ?_ rfl (by kernel_rfl) (by kernel_rfl) (by kernel_rfl) (fun _ _ _ h => h) (Or.inl ⟨by kernel_rfl, ?_⟩) SD.out ?_
  rotate_left 1
  · intro u hu; obtain ⟨hu1, hu2⟩ := hu; obtain ⟨y0, y1, y2, y3, y4, y5, y6, y7, y8⟩ := evCells hu1; obtain ⟨x0, x1, x2, x3, x4⟩ := rowCells hu2; go_simp; first | done | with_reducible rfl
  try simp only [Act.put, nA, nB, nC, nD, nE, nF]
  refine held_take 3 ?_ rfl (by kernel_rfl) (by kernel_rfl) (by kernel_rfl) (fun _ _ _ h => h) (Or.inl ⟨by kernel_rfl, ?_⟩) SD.out ?_
  rotate_left 1
  · intro u hu; obtain ⟨hu1, hu2⟩ := hu; obtain ⟨y0, y1, y2, y3, y4, y5, y6, y7, y8⟩ := evCells hu1; obtain ⟨x0, x1, x2, x3, x4⟩ := rowCells hu2; go_simp; first | done | with_reducible rfl
  try simp only [Act.put, nA, nB, nC, nD, nE, nF]
  refine held_take 5 ?_ rfl (by kernel_rfl) (by kernel_rfl) (by kernel_rfl) (fun _ _ _ h => h) (Or.inl ⟨by kernel_rfl, ?_⟩) SD.out ?_
  rotate_left 1
  · intro u hu; obtain ⟨hu1, hu2⟩ := hu; obtain ⟨y0, y1, y2, y3, y4, y5, y6, y7, y8⟩ := evCells hu1; obtain ⟨x0, x1, x2, x3, x4⟩ := rowCells hu2; go_simp; first | done | with_reducible rfl
  try simp only [Act.put, nA, nB, nC, nD, nE, nF]
  refine held_take 6 ?_ rfl (by kernel_rfl) (by kernel_rfl) (by kernel_rfl) (fun _ _ _ h => h) (Or.inl ⟨by kernel_rfl, ?_⟩) SD.out ?_
  rotate_left 1
  · intro u hu; obtain ⟨hu1, hu2⟩ := hu; obtain ⟨y0, y1, y2, y3, y4, y5, y6, y7, y8⟩ := evCells hu1; obtain ⟨x0, x1, x2, x3, x4⟩ := rowCells hu2; go_simp; first | done | with_reducible rfl
  try simp only [Act.put, nA, nB, nC, nD, nE, nF]
  refine held_take 7 ?_ rfl (by kernel_rfl) (by kernel_rfl) (by kernel_rfl) (fun _ _ _ h => h) (Or.inl ⟨by kernel_rfl, ?_⟩) SD.out ?_
  rotate_left 1
  · intro u hu; obtain ⟨hu1, hu2⟩ := hu; obtain ⟨y0, y1, y2, y3, y4, y5, y6, y7, y8⟩ := evCells hu1; obtain ⟨x0, x1, x2, x3, x4⟩ := rowCells hu2; go_simp; first | done | with_reducible rfl
  try simp only [Act.put, nA, nB, nC, nD, nE, nF]
  refine held_take 8 ?_ rfl (by kernel_rfl) (by kernel_rfl) (by kernel_rfl) (fun _ _ _ h => h) (Or.inl ⟨by kernel_rfl, ?_⟩) SD.out ?_
  rotate_left 1
  · intro u hu; obtain ⟨hu1, hu2⟩ := hu; obtain ⟨y0, y1, y2, y3, y4, y5, y6, y7, y8⟩ := evCells hu1; obtain ⟨x0, x1, x2, x3, x4⟩ := rowCells hu2; go_simp; first | done | with_reducible rfl
  try simp only [Act.put, nA, nB, nC, nD, nE, nF]
  refine held_take 9 ?_ rfl (by kernel_rfl) (by kernel_rfl) (by kernel_rfl) (fun _ _ _ h => h) (Or.inl ⟨by kernel_rfl, ?_⟩) SD.out ?_
  rotate_left 1
  · intro u hu; obtain ⟨hu1, hu2⟩ := hu; obtain ⟨y0, y1, y2, y3, y4, y5, y6, y7, y8⟩ := evCells hu1; obtain ⟨x0, x1, x2, x3, x4⟩ := rowCells hu2; go_simp; first | done | with_reducible rfl
  try simp only [Act.put, nA, nB, nC, nD, nE, nF]
  refine held_take 10 ?_ rfl (by kernel_rfl) (by kernel_rfl) (by kernel_rfl) (fun _ _ _ h => h) (Or.inl ⟨by kernel_rfl, ?_⟩) SD.out ?_
  rotate_left 1
  · intro u hu; obtain ⟨hu1, hu2⟩ := hu; obtain ⟨y0, y1, y2, y3, y4, y5, y6, y7, y8⟩ := evCells hu1; obtain ⟨x0, x1, x2, x3, x4⟩ := rowCells hu2; go_simp; first | done | with_reducible rfl
  try simp only [Act.put, nA, nB, nC, nD, nE, nF]
  refine held_take 11 ?_ rfl (by kernel_rfl) (by kernel_rfl) (by kernel_rfl) (fun _ _ _ h => h) (Or.inl ⟨by kernel_rfl, ?_⟩) SD.out ?_
  rotate_left 1
  · intro u hu; obtain ⟨hu1, hu2⟩ := hu; obtain ⟨y0, y1, y2, y3, y4, y5, y6, y7, y8⟩ := evCells hu1; obtain ⟨x0, x1, x2, x3, x4⟩ := rowCells hu2; go_simp; first | done | with_reducible rfl
  try simp only [Act.put, nA, nB, nC, nD, nE, nF]
  refine held_take 12 ?_ rfl (by kernel_rfl) (by kernel_rfl) (by kernel_rfl) (fun _ _ _ h => h) (Or.inl ⟨by kernel_rfl, ?_⟩) SD.out ?_
  rotate_left 1
  · intro u hu; obtain ⟨hu1, hu2⟩ := hu; obtain ⟨y0, y1, y2, y3, y4, y5, y6, y7, y8⟩ := evCells hu1; obtain ⟨x0, x1, x2, x3, x4⟩ := rowCells hu2; go_simp; first | done | with_reducible rfl
  try simp only [Act.put, nA, nB, nC, nD, nE, nF]
  refine held_take 13 ?_ rfl (by kernel_rfl) (by kernel_rfl) (by kernel_rfl) (fun _ _ _ h => h) (Or.inl ⟨by kernel_rfl, ?_⟩) SD.out ?_
  rotate_left 1
  · intro u hu; obtain ⟨hu1, hu2⟩ := hu; obtain ⟨y0, y1, y2, y3, y4, y5, y6, y7, y8⟩ := evCells hu1; obtain ⟨x0, x1, x2, x3, x4⟩ := rowCells hu2; go_simp; first | done | with_reducible rfl
  try simp only [Act.put, nA, nB, nC, nD, nE, nF]
  refine held_take 16 ?_ rfl (by kernel_rfl) (by kernel_rfl) (by kernel_rfl) (fun _ _ _ h => h) (Or.inl ⟨by kernel_rfl, ?_⟩) SD.out ?_
  rotate_left 1
  · intro u hu; obtain ⟨hu1, hu2⟩ := hu; obtain ⟨y0, y1, y2, y3, y4, y5, y6, y7, y8⟩ := evCells hu1; obtain ⟨x0, x1, x2, x3, x4⟩ := rowCells hu2; go_simp; first | done | with_reducible rfl
  try simp only [Act.put, nA, nB, nC, nD, nE, nF]
  refine held_take 17 ?_ rfl (by kernel_rfl) (by kernel_rfl) (by kernel_rfl) (fun _ _ _ h => h) (Or.inl ⟨by kernel_rfl, ?_⟩) SD.out ?_
  rotate_left 1
  · intro u hu; obtain ⟨hu1, hu2⟩ := hu; obtain ⟨y0, y1, y2, y3, y4, y5, y6, y7, y8⟩ := evCells hu1; obtain ⟨x0, x1, x2, x3, x4⟩ := rowCells hu2; go_simp; first | done | with_reducible rfl
  try simp only [Act.put, nA, nB, nC, nD, nE, nF]
  refine held_one 4 (by kernel_rfl) rfl (by kernel_rfl) (fun K hK => ?_)
  go_simp
  refine (HI1 _ HWD.out).out.mono ?_
  rintro e u1 ⟨rfl, t1⟩
  have V1 := Lib.hid (VD.out.trans t1)
  have S1 : Hid (EvAt u1 B E ∧ RowBox u1 RB r v) := Lib.hid ⟨SD.out.1.turn t1, SD.out.2.turn t1⟩
  clear t1
  refine hK _ _ S1.out ?_
  clear hK K
  try simp only [Act.put, nA, nB, nC, nD, nE, nF]
  refine held_one 14 (by kernel_rfl) rfl (by kernel_rfl) (fun K hK => ?_)
  go_simp
  refine (HI2 _ (HW.out.turn V1.out)).out.mono ?_
  rintro e u2 ⟨rfl, t2⟩
  have V2 := Lib.hid (V1.out.trans t2)
  have S2 : Hid (EvAt u2 B E ∧ RowBox u2 RB r v) := Lib.hid ⟨S1.out.1.turn t2, S1.out.2.turn t2⟩
  clear t2
  refine hK _ _ S2.out ?_
  clear hK K
  try simp only [Act.put, nA, nB, nC, nD, nE, nF]
  refine held_take 15 ?_ rfl (by kernel_rfl) (by kernel_rfl) (by kernel_rfl) (fun _ _ _ h => h) (Or.inl ⟨by kernel_rfl, ?_⟩) S2.out ?_
  rotate_left 1
  · intro u hu; obtain ⟨hu1, hu2⟩ := hu; obtain ⟨y0, y1, y2, y3, y4, y5, y6, y7, y8⟩ := evCells hu1; obtain ⟨x0, x1, x2, x3, x4⟩ := rowCells hu2; go_simp; first | done | with_reducible rfl
  try simp only [Act.put, nA, nB, nC, nD, nE, nF]
  obtain ⟨u3, hu3⟩ : ∃ u3, u2.alloc (.cells #[.string I1, .string Z, .string (BT r.word)] 9) = u3 := ⟨_, rfl⟩
  have OW3 : Hid (OWS w (.slice (some ⟨u2.heap.size, 0, none⟩) 3 3) (headW r E) u3) := Lib.hid (by rw [← hu3, ← HI1B.out, ← HZB.out]; exact OWS.lit3 V2.out _ _ _)
  have t3 : Turn Nn u2 u3 := by rw [← hu3]; exact (Turn.refl Nn u2).alloc _
  have V3 := Lib.hid (V2.out.trans t3)
  have S3 : Hid (EvAt u3 B E ∧ RowBox u3 RB r v) := Lib.hid ⟨S2.out.1.turn t3, S2.out.2.turn t3⟩
  clear t3
  refine held_one 18 (by kernel_rfl) rfl (by kernel_rfl) (fun K hK => ?_)
  go_simp
  refine hK _ _ S3.out ?_
  clear hK K
  try simp only [Act.put, nA, nB, nC, nD, nE, nF]
  clear hu3
  refine held_take 19 ?_ rfl (by kernel_rfl) (by kernel_rfl) (by kernel_rfl) (fun _ _ _ h => h) (Or.inl ⟨by kernel_rfl, ?_⟩) S3.out ?_
  rotate_left 1
  · intro u hu; obtain ⟨hu1, hu2⟩ := hu; obtain ⟨y0, y1, y2, y3, y4, y5, y6, y7, y8⟩ := evCells hu1; obtain ⟨x0, x1, x2, x3, x4⟩ := rowCells hu2; go_simp; first | done | with_reducible rfl
  try simp only [Act.put, nA, nB, nC, nD, nE, nF]
  refine wpAnyH_done (by kernel_rfl) ?_ _
  obtain ⟨n3, hn3⟩ : ∃ n, u2.heap.size = n := ⟨_, rfl⟩
  rw [hn3] at OW3 ⊢
  clear hn3
  obtain ⟨x0, x1, x2, x3, x4⟩ := rowCells S3.out.2
  rw [HVE.out] at x4
  have FB3 : Hid (u3.heap[b]? = some (.cells #[.func (.func 98) #[] #[], .func (.func 99) #[] #[]] 95)) := Lib.hid ((V3.out.block b (heap_lt HBF.out) (fun h => h)).trans HBF.out)
  have f0 : u3.cell? ⟨b, 0, none⟩ = some (.func (.func 98) #[] #[]) := cell_blk FB3.out
  have f1 : u3.cell? ⟨b, 1, none⟩ = some (.func (.func 99) #[] #[]) := cell_blk FB3.out
  obtain ⟨k1, k2, k3, e1, e2, e3, kb, tb⟩ := box95 u3 (t := .func (.func 98) #[] #[]) (r := .func (.func 99) #[] #[]) rfl rfl
  have g0 : k3.cell? ⟨u3.heap.size, 0, none⟩ = some (.func (.func 98) #[] #[]) := cell_blk kb
  have V4 := Lib.hid (V3.out.trans tb)
  have OW4 := Lib.hid (OW3.out.turn tb)
  have HT := Lib.hid (told_place HS.out (S3.out.1.turn tb) (HW.out.turn V4.out))
  clear kb tb
  go_wp2_with fail
  refine wp_loop_rounds 2 ?_
  rw [rounds_succ]
  go_wp2_with fail
  refine HT.out.mono ?_
  rintro e u5 ⟨he, t5⟩
  have V5 := Lib.hid (V4.out.trans t5)
  have OW5 := Lib.hid (OW4.out.turn t5)
  clear t5 f0 f1 e1 e2 e3 g0
  cases htl : tellF .place E with
  | none =>
    rw [htl] at he
    obtain rfl : e = badE := he
    obtain rfl : x = none := by rw [HX.out, htl]; rfl
    exact ⟨rfl, ⟨rfl, V5.out⟩⟩
  | some tx =>
    rw [htl] at he
    obtain rfl : e = .returned (.string (BT tx)) := he
    obtain rfl : x = some (headW r E ++ [tx]) := by rw [HX.out, htl]; rfl
    obtain ⟨pb, nb, cb, u6, hrun, hO⟩ := OW5.out.push tx 25 (by simp [headW])
    have HR := Lib.hid hrun
    have OW6 := Lib.hid hO
    clear hrun hO htl HX
    go_wp2_with (at_builtin; refine wpList_append_eq rfl _ _ 25 rfl _ _ rfl rfl HR.out ?_)
    rw [rounds_succ]
    go_wp2_with fail
    go_ret
    exact ⟨_, rfl, OW6.out⟩
end Go.Proofs.YtpbjblbeepbklaaGreatDoor
