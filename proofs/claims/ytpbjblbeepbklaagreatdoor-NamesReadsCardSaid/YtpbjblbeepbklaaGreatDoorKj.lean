/- The program's walks: how a row of two fields tells an event. Printed by gen_ws.py. -/
import Derived.Test.YtpbjblbeepbklaaGreatDoorKi
namespace Go.Proofs.YtpbjblbeepbklaaGreatDoor
set_option linter.unusedSimpArgs false
set_option linter.unusedVariables false
open Go.RowKit Go.Shelf

theorem OWS.push2 {w0 w : World} {v : Value} {L : List Bs} (h : OWS w0 v L w) (x : Bs) (ty : TypeId) (hl : L.length ≤ 10000000) :
    ∃ pa n cap W', (Builtin.append_ #[25, 25] ty #[v, .slice (some ⟨w.heap.size, 0, none⟩) 1 1]).run Tryz.prog (w.alloc (.cells #[.string (BT x)] 9)) = .ok (.slice pa n cap) W' ∧ OWS w0 (.slice pa n cap) (L ++ [x]) W' ∧
      (∀ k, k < w.heap.size → v.ownBlock ≠ some k → W'.heap[k]? = w.heap[k]?) := by
  obtain ⟨i0, hi, hz0, hz1, hz2⟩ := info_parts infoW
  have t8 : Turn Nn w (w.alloc (.cells #[.string (BT x)] 9)) := (Turn.refl Nn w).alloc _
  have h1 := h.turn t8
  have hnew : (w.alloc (.cells #[.string (BT x)] 9)).heap[w.heap.size]? = some (.cells #[.string (BT x)] 9) := World.alloc_heap_new _ _
  obtain ⟨v', W', hrun, hown', hgrow, _, _⟩ := run_append_own_at (P := Tryz.prog) (w.alloc (.cells #[.string (BT x)] 9)) w0.heap.size 25 ty 9 i0 _ 1 16 Tryz.underlying25 hi hz0 hz1 hz2 rfl (by decide) v _ _ h1.own ⟨w.heap.size, 0, none⟩ 1 1 [.string (BT x)] rfl
    (fun j u hj => by
      have hj3 : j < 1 := by
        have := (List.getElem?_eq_some_iff.1 hj).1
        simpa using this
      have : (⟨w.heap.size, 0, none⟩ : Addr).add j = ⟨w.heap.size, j, none⟩ := by unfold Addr.add; split <;> simp_all
      rw [this, cell_blk hnew]
      simpa using hj)
    (fun u hu => by simp at hu; subst hu; rfl) (by simp only [maxLen]; omega) (by omega) h1.low.size
  have hO : OWS w0 v' (L ++ [x]) W' := by
    refine ⟨?_, grown_low h1.low hgrow (fun j e => (h1.own.lt j e).1)⟩
    have e1 : strCellsL (L ++ [x]) = strCellsL L ++ [.string (BT x)] := by unfold strCellsL; simp
    rw [e1, List.length_append]; exact hown'
  have hk : ∀ k, k < w.heap.size → v.ownBlock ≠ some k → W'.heap[k]? = w.heap[k]? := fun k hk hne =>
    (hgrow.block k (by rw [World.size_alloc]; omega) (fun e => hne e.symm)).trans (t8.block k hk (fun h => h))
  obtain ⟨pa, n, cap, rfl⟩ := hO.shape
  exact ⟨pa, n, cap, W', hrun, hO, hk⟩
set_option maxRecDepth 100000 in
set_option maxHeartbeats 16000000 in
theorem tell_two_word {r : RowD} {E : EventD} (hf : r.flds = [.place, .word]) (hs : ESmall E) {B : Nat} {v : Value} {w : World} (hE : EvAt w B E) (hv : FSl w v r.flds) (hw : Laid w) :
    Calls Tryz.prog 45 #[.agg (rowA r v), .pointer (some ⟨B, 0, none⟩)] w (TellR w r E) := by
  have HW := Lib.hid hw
  have HE := Lib.hid hE
  have HS := Lib.hid hs
  have HI1 := fun w (h : Laid w) => Lib.hid (itoa_any hs.ints.slot h)
  have HI2 := fun w (h : Laid w) => Lib.hid (itoa_any hs.ints.pc h)
  obtain ⟨I1, hI1⟩ : ∃ I, BT (Lib.itoa E.slot) = I := ⟨_, rfl⟩
  obtain ⟨I2, hI2⟩ : ∃ I, BT (Lib.itoa E.pc) = I := ⟨_, rfl⟩
  obtain ⟨Z, hZ⟩ : ∃ Z, BT (E.actor ++ 64 :: Lib.itoa E.pc) = Z := ⟨_, rfl⟩
  obtain ⟨Y, hY⟩ : ∃ Y, BT (E.actor ++ [64]) = Y := ⟨_, rfl⟩
  have hal := hs.actor
  have hpl := itoa_len hs.ints.pc
  have hcat1 : ∀ W : World, (Op.stringOp .add (BT E.actor) ⟨#[64]⟩).run Tryz.prog W = .ok (.string Y) W := fun W => by
    rw [← hY]; exact cat_run (a := E.actor) (b := [64]) (by simp; omega) W
  have hcat2 : ∀ W : World, (Op.stringOp .add Y I2).run Tryz.prog W = .ok (.string Z) W := fun W => by
    rw [← hY, ← hZ, ← hI2]
    have := cat_run (a := E.actor ++ [64]) (b := Lib.itoa E.pc) (by simp; omega) W
    rw [this]; simp
  simp only [hI1] at HI1
  simp only [hI2] at HI2
  have HI1B := Lib.hid hI1
  have HZB := Lib.hid hZ
  rw [hf] at hv
  have HF := Lib.hid hf
  clear hw hE hs hI1 hI2 hZ hY hal hpl hf
  obtain ⟨b, _, _, _, _, hve, hb, ⟨rfl, rfl⟩, ⟨rfl, rfl⟩⟩ := hv
  have HVE := Lib.hid hve
  clear hve
  have HBF := Lib.hid hb
  clear hb
  have htr : tellR r E = match tellF .place E, tellF .word E with
    | some t, some u => some (headW r E ++ [t, r.msg, u])
    | _, _ => none := by unfold tellR; rw [HF.out]; rfl
  unfold TellR
  obtain ⟨x, hx⟩ : ∃ x, tellR r E = x := ⟨_, rfl⟩
  rw [hx]
  rw [hx] at htr
  have HX := Lib.hid htr
  clear htr hx
  have BW := World.alloc_heap_new w (.cells (rowA r v) 70)
  obtain ⟨w0, hw0⟩ : ∃ w0, w.alloc (.cells (rowA r v) 70) = w0 := ⟨_, rfl⟩
  obtain ⟨RB, hRB⟩ : ∃ RB, w.heap.size = RB := ⟨_, rfl⟩
  have HRB : Hid (RowBox w0 RB r v) := Lib.hid (by rw [← hw0, ← hRB]; exact BW)
  have T0 : Hid (Turn Nn w w0) := Lib.hid (by rw [← hw0]; exact (Turn.refl Nn w).alloc _)
  have HE0 := Lib.hid (HE.out.turn T0.out)
  have HW0 := Lib.hid (HW.out.turn T0.out)
  have hw0' : w.alloc (.cells #[.int .i64 r.kind, .int .i64 r.tag, .string (BT r.word), .string (BT r.msg), v] 70) = w0 := hw0
  clear BW hw0
  unfold rowA
  go_enter Tryz.func45, Tryz.ntmps45
  go_upto_region 1 with (fail)
  try rw [hw0']
  try rw [hRB]
  clear hw0' hRB
  refine held_begin (fun u => EvAt u B E ∧ RowBox u RB r v) (by kernel_rfl) ?_
  generalize hwd : World.drew w0 = wd
  have VD : Hid (Turn Nn w wd) := Lib.hid (by rw [← hwd]; exact T0.out.drew)
  have SD : Hid (EvAt wd B E ∧ RowBox wd RB r v) := Lib.hid (by rw [← hwd]; exact ⟨HE0.out, HRB.out⟩)
  have HWD : Hid (Laid wd) := Lib.hid (HW.out.turn VD.out)
  clear hwd
  refine held_take 0 ?_ rfl (by kernel_rfl) (by kernel_rfl) (by kernel_rfl) (fun _ _ _ h => h) (Or.inl ⟨by kernel_rfl, ?_⟩) SD.out ?_
  rotate_left 1
  · intro u hu; obtain ⟨hu1, hu2⟩ := hu; obtain ⟨y0, y1, y2, y3, y4, y5, y6, y7, y8⟩ := evCells hu1; obtain ⟨x0, x1, x2, x3, x4⟩ := rowCells hu2; go_simp; first | done | with_reducible rfl
  try simp only [Act.put, nA, nB, nC, nD, nE, nF]
  refine held_take 1 ?_ rfl (by kernel_rfl) (by kernel_rfl) (by kernel_rfl) (fun _ _ _ h => h) (Or.inl ⟨by kernel_rfl, ?_⟩) SD.out ?_
  rotate_left 1
  · intro u hu; obtain ⟨hu1, hu2⟩ := hu; obtain ⟨y0, y1, y2, y3, y4, y5, y6, y7, y8⟩ := evCells hu1; obtain ⟨x0, x1, x2, x3, x4⟩ := rowCells hu2; go_simp; first | done | with_reducible rfl
  try simp only [Act.put, nA, nB, nC, nD, nE, nF]
  refine held_take 2 ?_ rfl (by kernel_rfl) (by kernel_rfl) (by kernel_rfl) (fun _ _ _ h => h) (Or.inl ⟨by kernel_rfl, ?_⟩) SD.out ?_
  rotate_left 1
  · intro u hu; obtain ⟨hu1, hu2⟩ := hu; obtain ⟨y0, y1, y2, y3, y4, y5, y6, y7, y8⟩ := evCells hu1; obtain ⟨x0, x1, x2, x3, x4⟩ := rowCells hu2; go_simp; first | done | with_reducible rfl
  try simp only [Act.put, nA, nB, nC, nD, nE, nF]
  refine held_take 3 ?_ rfl (by kernel_rfl) (by kernel_rfl) (by kernel_rfl) (fun _ _ _ h => h) (Or.inl ⟨by kernel_rfl, ?_⟩) SD.out ?_
  rotate_left 1
  · intro u hu; obtain ⟨hu1, hu2⟩ := hu; obtain ⟨y0, y1, y2, y3, y4, y5, y6, y7, y8⟩ := evCells hu1; obtain ⟨x0, x1, x2, x3, x4⟩ := rowCells hu2; go_simp; first | done | with_reducible rfl
  try simp only [Act.put, nA, nB, nC, nD, nE, nF]
  refine held_take 5 ?_ rfl (by kernel_rfl) (by kernel_rfl) (by kernel_rfl) (fun _ _ _ h => h) (Or.inl ⟨by kernel_rfl, ?_⟩) SD.out ?_
  rotate_left 1
  · intro u hu; obtain ⟨hu1, hu2⟩ := hu; obtain ⟨y0, y1, y2, y3, y4, y5, y6, y7, y8⟩ := evCells hu1; obtain ⟨x0, x1, x2, x3, x4⟩ := rowCells hu2; go_simp; first | done | with_reducible rfl
  try simp only [Act.put, nA, nB, nC, nD, nE, nF]
  refine held_take 6 ?_ rfl (by kernel_rfl) (by kernel_rfl) (by kernel_rfl) (fun _ _ _ h => h) (Or.inl ⟨by kernel_rfl, ?_⟩) SD.out ?_
  rotate_left 1
  · intro u hu; obtain ⟨hu1, hu2⟩ := hu; obtain ⟨y0, y1, y2, y3, y4, y5, y6, y7, y8⟩ := evCells hu1; obtain ⟨x0, x1, x2, x3, x4⟩ := rowCells hu2; go_simp; first | done | with_reducible rfl
  try simp only [Act.put, nA, nB, nC, nD, nE, nF]
  refine held_take 7 ?_ rfl (by kernel_rfl) (by kernel_rfl) (by kernel_rfl) (fun _ _ _ h => h) (Or.inl ⟨by kernel_rfl, ?_⟩) SD.out ?_
  rotate_left 1
  · intro u hu; obtain ⟨hu1, hu2⟩ := hu; obtain ⟨y0, y1, y2, y3, y4, y5, y6, y7, y8⟩ := evCells hu1; obtain ⟨x0, x1, x2, x3, x4⟩ := rowCells hu2; go_simp; first | done | with_reducible rfl
  try simp only [Act.put, nA, nB, nC, nD, nE, nF]
  refine held_take 8 ?_ rfl (by kernel_rfl) (by kernel_rfl) (by kernel_rfl) (fun _ _ _ h => h) (Or.inl ⟨by kernel_rfl, ?_⟩) SD.out ?_
  rotate_left 1
  · intro u hu; obtain ⟨hu1, hu2⟩ := hu; obtain ⟨y0, y1, y2, y3, y4, y5, y6, y7, y8⟩ := evCells hu1; obtain ⟨x0, x1, x2, x3, x4⟩ := rowCells hu2; go_simp; first | done | with_reducible rfl
  try simp only [Act.put, nA, nB, nC, nD, nE, nF]
  refine held_take 9 ?_ rfl (by kernel_rfl) (by kernel_rfl) (by kernel_rfl) (fun _ _ _ h => h) (Or.inl ⟨by kernel_rfl, ?_⟩) SD.out ?_
  rotate_left 1
  · intro u hu; obtain ⟨hu1, hu2⟩ := hu; obtain ⟨y0, y1, y2, y3, y4, y5, y6, y7, y8⟩ := evCells hu1; obtain ⟨x0, x1, x2, x3, x4⟩ := rowCells hu2; go_simp; first | done | with_reducible rfl
  try simp only [Act.put, nA, nB, nC, nD, nE, nF]
  refine held_take 10 ?_ rfl (by kernel_rfl) (by kernel_rfl) (by kernel_rfl) (fun _ _ _ h => h) (Or.inl ⟨by kernel_rfl, ?_⟩) SD.out ?_
  rotate_left 1
  · intro u hu; obtain ⟨hu1, hu2⟩ := hu; obtain ⟨y0, y1, y2, y3, y4, y5, y6, y7, y8⟩ := evCells hu1; obtain ⟨x0, x1, x2, x3, x4⟩ := rowCells hu2; go_simp; first | done | with_reducible rfl
  try simp only [Act.put, nA, nB, nC, nD, nE, nF]
  refine held_take 11 ?_ rfl (by kernel_rfl) (by kernel_rfl) (by kernel_rfl) (fun _ _ _ h => h) (Or.inl ⟨by kernel_rfl, ?_⟩) SD.out ?_
  rotate_left 1
  · intro u hu; obtain ⟨hu1, hu2⟩ := hu; obtain ⟨y0, y1, y2, y3, y4, y5, y6, y7, y8⟩ := evCells hu1; obtain ⟨x0, x1, x2, x3, x4⟩ := rowCells hu2; go_simp; first | done | with_reducible rfl
  try simp only [Act.put, nA, nB, nC, nD, nE, nF]
  refine held_take 12 ?_ rfl (by kernel_rfl) (by kernel_rfl) (by kernel_rfl) (fun _ _ _ h => h) (Or.inl ⟨by kernel_rfl, ?_⟩) SD.out ?_
  rotate_left 1
  · intro u hu; obtain ⟨hu1, hu2⟩ := hu; obtain ⟨y0, y1, y2, y3, y4, y5, y6, y7, y8⟩ := evCells hu1; obtain ⟨x0, x1, x2, x3, x4⟩ := rowCells hu2; go_simp; first | done | with_reducible rfl
  try simp only [Act.put, nA, nB, nC, nD, nE, nF]
  refine held_take 13 ?_ rfl (by kernel_rfl) (by kernel_rfl) (by kernel_rfl) (fun _ _ _ h => h) (Or.inl ⟨by kernel_rfl, ?_⟩) SD.out ?_
  rotate_left 1
  · intro u hu; obtain ⟨hu1, hu2⟩ := hu; obtain ⟨y0, y1, y2, y3, y4, y5, y6, y7, y8⟩ := evCells hu1; obtain ⟨x0, x1, x2, x3, x4⟩ := rowCells hu2; go_simp; first | done | with_reducible rfl
  try simp only [Act.put, nA, nB, nC, nD, nE, nF]
  refine held_take 16 ?_ rfl (by kernel_rfl) (by kernel_rfl) (by kernel_rfl) (fun _ _ _ h => h) (Or.inl ⟨by kernel_rfl, ?_⟩) SD.out ?_
  rotate_left 1
  · intro u hu; obtain ⟨hu1, hu2⟩ := hu; obtain ⟨y0, y1, y2, y3, y4, y5, y6, y7, y8⟩ := evCells hu1; obtain ⟨x0, x1, x2, x3, x4⟩ := rowCells hu2; go_simp; first | done | with_reducible rfl
  try simp only [Act.put, nA, nB, nC, nD, nE, nF]
  refine held_take 17 ?_ rfl (by kernel_rfl) (by kernel_rfl) (by kernel_rfl) (fun _ _ _ h => h) (Or.inl ⟨by kernel_rfl, ?_⟩) SD.out ?_
  rotate_left 1
  · intro u hu; obtain ⟨hu1, hu2⟩ := hu; obtain ⟨y0, y1, y2, y3, y4, y5, y6, y7, y8⟩ := evCells hu1; obtain ⟨x0, x1, x2, x3, x4⟩ := rowCells hu2; go_simp; first | done | with_reducible rfl
  try simp only [Act.put, nA, nB, nC, nD, nE, nF]
  refine held_one 4 (by kernel_rfl) rfl (by kernel_rfl) (fun K hK => ?_)
  go_simp
  refine (HI1 _ HWD.out).out.mono ?_
  rintro e u1 ⟨rfl, t1⟩
  have V1 := Lib.hid (VD.out.trans t1)
  have S1 : Hid (EvAt u1 B E ∧ RowBox u1 RB r v) := Lib.hid ⟨SD.out.1.turn t1, SD.out.2.turn t1⟩
  clear t1
  refine hK _ _ S1.out ?_
  clear hK K
  try simp only [Act.put, nA, nB, nC, nD, nE, nF]
  refine held_one 14 (by kernel_rfl) rfl (by kernel_rfl) (fun K hK => ?_)
  go_simp
  refine (HI2 _ (HW.out.turn V1.out)).out.mono ?_
  rintro e u2 ⟨rfl, t2⟩
  have V2 := Lib.hid (V1.out.trans t2)
  have S2 : Hid (EvAt u2 B E ∧ RowBox u2 RB r v) := Lib.hid ⟨S1.out.1.turn t2, S1.out.2.turn t2⟩
  clear t2
  refine hK _ _ S2.out ?_
  clear hK K
  try simp only [Act.put, nA, nB, nC, nD, nE, nF]
  refine held_take 15 ?_ rfl (by kernel_rfl) (by kernel_rfl) (by kernel_rfl) (fun _ _ _ h => h) (Or.inl ⟨by kernel_rfl, ?_⟩) S2.out ?_
  rotate_left 1
  · intro u hu; obtain ⟨hu1, hu2⟩ := hu; obtain ⟨y0, y1, y2, y3, y4, y5, y6, y7, y8⟩ := evCells hu1; obtain ⟨x0, x1, x2, x3, x4⟩ := rowCells hu2; go_simp; first | done | with_reducible rfl
  try simp only [Act.put, nA, nB, nC, nD, nE, nF]
  obtain ⟨u3, hu3⟩ : ∃ u3, u2.alloc (.cells #[.string I1, .string Z, .string (BT r.word)] 9) = u3 := ⟨_, rfl⟩
  have OW3 : Hid (OWS w (.slice (some ⟨u2.heap.size, 0, none⟩) 3 3) (headW r E) u3) := Lib.hid (by rw [← hu3, ← HI1B.out, ← HZB.out]; exact OWS.lit3 V2.out _ _ _)
  have t3 : Turn Nn u2 u3 := by rw [← hu3]; exact (Turn.refl Nn u2).alloc _
  have V3 := Lib.hid (V2.out.trans t3)
  have S3 : Hid (EvAt u3 B E ∧ RowBox u3 RB r v) := Lib.hid ⟨S2.out.1.turn t3, S2.out.2.turn t3⟩
  clear t3
  refine held_one 18 (by kernel_rfl) rfl (by kernel_rfl) (fun K hK => ?_)
  go_simp
  refine hK _ _ S3.out ?_
  clear hK K
  try simp only [Act.put, nA, nB, nC, nD, nE, nF]
  clear hu3
  refine held_take 19 ?_ rfl (by kernel_rfl) (by kernel_rfl) (by kernel_rfl) (fun _ _ _ h => h) (Or.inl ⟨by kernel_rfl, ?_⟩) S3.out ?_
  rotate_left 1
  · intro u hu; obtain ⟨hu1, hu2⟩ := hu; obtain ⟨y0, y1, y2, y3, y4, y5, y6, y7, y8⟩ := evCells hu1; obtain ⟨x0, x1, x2, x3, x4⟩ := rowCells hu2; go_simp; first | done | with_reducible rfl
  try simp only [Act.put, nA, nB, nC, nD, nE, nF]
  refine wpAnyH_done (by kernel_rfl) ?_ _
  obtain ⟨n3, hn3⟩ : ∃ n, u2.heap.size = n := ⟨_, rfl⟩
  have HN3 : Hid (RB < n3) := Lib.hid (by rw [← hn3]; exact heap_lt S2.out.2)
  rw [hn3] at OW3 ⊢
  clear hn3
  obtain ⟨x0, x1, x2, x3, x4⟩ := rowCells S3.out.2
  rw [HVE.out] at x4
  have FB3 : Hid (u3.heap[b]? = some (.cells #[.func (.func 98) #[] #[], .func (.func 99) #[] #[], .func (.func 92) #[] #[], .func (.func 93) #[] #[]] 95)) := Lib.hid ((V3.out.block b (heap_lt HBF.out) (fun h => h)).trans HBF.out)
  have f0 : u3.cell? ⟨b, 0, none⟩ = some (.func (.func 98) #[] #[]) := cell_blk FB3.out
  have f1 : u3.cell? ⟨b, 1, none⟩ = some (.func (.func 99) #[] #[]) := cell_blk FB3.out
  obtain ⟨k1, k2, k3, e1, e2, e3, kb, tb⟩ := box95 u3 (t := .func (.func 98) #[] #[]) (r := .func (.func 99) #[] #[]) rfl rfl
  have g0 : k3.cell? ⟨u3.heap.size, 0, none⟩ = some (.func (.func 98) #[] #[]) := cell_blk kb
  have V4 := Lib.hid (V3.out.trans tb)
  have OW4 := Lib.hid (OW3.out.turn tb)
  have HT := Lib.hid (told_place HS.out (S3.out.1.turn tb) (HW.out.turn V4.out))
  have tb0 := Lib.hid tb
  clear kb tb
  go_wp2_with fail
  refine wp_loop_rounds 3 ?_
  rw [rounds_succ]
  go_wp2_with fail
  refine HT.out.mono ?_
  rintro e u5 ⟨he, t5⟩
  have V5 := Lib.hid (V4.out.trans t5)
  have OW5 := Lib.hid (OW4.out.turn t5)
  have RB5 := Lib.hid ((S3.out.2.turn tb0.out).turn t5)
  clear t5 f0 f1 e1 e2 e3 g0
  cases htl : tellF .place E with
  | none =>
    rw [htl] at he
    obtain rfl : e = badE := he
    obtain rfl : x = none := by rw [HX.out, htl]
    exact ⟨rfl, ⟨rfl, V5.out⟩⟩
  | some tx =>
    rw [htl] at he
    obtain rfl : e = .returned (.string (BT tx)) := he
    have HTL := Lib.hid htl
    obtain ⟨pb, nb, cb, u6, hrun, hO, hkp⟩ := OW5.out.push2 tx 25 (by simp [headW])
    have HR := Lib.hid hrun
    have OW6 := Lib.hid hO
    have RB6 : Hid (RowBox u6 RB r v) := Lib.hid ((hkp RB (heap_lt RB5.out) (fun e => by have h1 := HN3.out; have h2 : n3 = RB := Option.some.inj e; omega)).trans RB5.out)
    clear hrun hO htl hkp
    go_wp2_with (at_builtin; refine wpList_append_eq rfl _ _ 25 rfl _ _ rfl rfl HR.out ?_)
    have V6 := Lib.hid OW6.out.low
    have FB6 : Hid (u6.heap[b]? = some (.cells #[.func (.func 98) #[] #[], .func (.func 99) #[] #[], .func (.func 92) #[] #[], .func (.func 93) #[] #[]] 95)) := Lib.hid ((V6.out.block b (heap_lt HBF.out) (fun h => h)).trans HBF.out)
    have f2 : u6.cell? ⟨b, 2, none⟩ = some (.func (.func 92) #[] #[]) := cell_blk FB6.out
    have f3 : u6.cell? ⟨b, 3, none⟩ = some (.func (.func 93) #[] #[]) := cell_blk FB6.out
    obtain ⟨k1, k2, k3, e1, e2, e3, kb, tb⟩ := box95 u6 (t := .func (.func 92) #[] #[]) (r := .func (.func 93) #[] #[]) rfl rfl
    have x3' := (rowCells (RB6.out.turn tb)).2.2.2.1
    obtain ⟨pc, nc, cc, u7, hrun7, hO7, hk7⟩ := (OW6.out.turn tb).push2 r.msg 25 (by simp [headW])
    have g0 : u7.cell? ⟨u6.heap.size, 0, none⟩ = some (.func (.func 92) #[] #[]) := cell_blk ((hk7 _ (heap_lt kb) (fun e => by have := (OW6.out.own.lt _ e).2; omega)).trans kb)
    have HR7 := Lib.hid hrun7
    have OW7 := Lib.hid hO7
    have V7 := Lib.hid hO7.low
    have HT2 := Lib.hid (told_word HS.out (HE.out.turn V7.out) (HW.out.turn V7.out))
    clear kb tb hrun7 hO7 hk7 HR x0 x1 x2 x3 x4
    rw [rounds_succ]
    go_wp2_with (at_builtin; refine wpList_append_eq rfl _ _ 25 rfl _ _ rfl rfl HR7.out ?_)
    refine HT2.out.mono ?_
    rintro e u8 ⟨he, t8⟩
    have V8 := Lib.hid (V7.out.trans t8)
    have OW8 := Lib.hid (OW7.out.turn t8)
    clear t8 f2 f3 e1 e2 e3 g0 x3'
    cases htl2 : tellF .word E with
    | none =>
      rw [htl2] at he
      obtain rfl : e = badE := he
      obtain rfl : x = none := by rw [HX.out, HTL.out, htl2]
      exact ⟨rfl, ⟨rfl, V8.out⟩⟩
    | some ux =>
      rw [htl2] at he
      obtain rfl : e = .returned (.string (BT ux)) := he
      have HXE : Hid (x = some ((headW r E ++ [tx]) ++ [r.msg] ++ [ux])) := Lib.hid (by rw [HX.out, HTL.out, htl2]; simp)
      obtain ⟨pd, nd, cd, u9, hrun9, hO9⟩ := OW8.out.push ux 25 (by simp [headW])
      have HR9 := Lib.hid hrun9
      have OW9 := Lib.hid hO9
      clear hrun9 hO9 htl2
      go_wp2_with (at_builtin; refine wpList_append_eq rfl _ _ 25 rfl _ _ rfl rfl HR9.out ?_)
      rw [rounds_succ]
      go_wp2_with fail
      go_ret
      obtain rfl := HXE.out
      exact ⟨_, rfl, OW9.out⟩
set_option maxRecDepth 100000 in
set_option maxHeartbeats 16000000 in
theorem tell_two_label {r : RowD} {E : EventD} (hf : r.flds = [.place, .label]) (hs : ESmall E) {B : Nat} {v : Value} {w : World} (hE : EvAt w B E) (hv : FSl w v r.flds) (hw : Laid w) :
    Calls Tryz.prog 45 #[.agg (rowA r v), .pointer (some ⟨B, 0, none⟩)] w (TellR w r E) := by
  have HW := Lib.hid hw
  have HE := Lib.hid hE
  have HS := Lib.hid hs
  have HI1 := fun w (h : Laid w) => Lib.hid (itoa_any hs.ints.slot h)
  have HI2 := fun w (h : Laid w) => Lib.hid (itoa_any hs.ints.pc h)
  obtain ⟨I1, hI1⟩ : ∃ I, BT (Lib.itoa E.slot) = I := ⟨_, rfl⟩
  obtain ⟨I2, hI2⟩ : ∃ I, BT (Lib.itoa E.pc) = I := ⟨_, rfl⟩
  obtain ⟨Z, hZ⟩ : ∃ Z, BT (E.actor ++ 64 :: Lib.itoa E.pc) = Z := ⟨_, rfl⟩
  obtain ⟨Y, hY⟩ : ∃ Y, BT (E.actor ++ [64]) = Y := ⟨_, rfl⟩
  have hal := hs.actor
  have hpl := itoa_len hs.ints.pc
  have hcat1 : ∀ W : World, (Op.stringOp .add (BT E.actor) ⟨#[64]⟩).run Tryz.prog W = .ok (.string Y) W := fun W => by
    rw [← hY]; exact cat_run (a := E.actor) (b := [64]) (by simp; omega) W
  have hcat2 : ∀ W : World, (Op.stringOp .add Y I2).run Tryz.prog W = .ok (.string Z) W := fun W => by
    rw [← hY, ← hZ, ← hI2]
    have := cat_run (a := E.actor ++ [64]) (b := Lib.itoa E.pc) (by simp; omega) W
    rw [this]; simp
  simp only [hI1] at HI1
  simp only [hI2] at HI2
  have HI1B := Lib.hid hI1
  have HZB := Lib.hid hZ
  rw [hf] at hv
  have HF := Lib.hid hf
  clear hw hE hs hI1 hI2 hZ hY hal hpl hf
  obtain ⟨b, _, _, _, _, hve, hb, ⟨rfl, rfl⟩, ⟨bx, rfl, rfl, hx0⟩⟩ := hv
  have HVE := Lib.hid hve
  clear hve
  have HBF := Lib.hid hb
  have HBX := Lib.hid hx0
  clear hx0
  clear hb
  have htr : tellR r E = match tellF .place E, tellF .label E with
    | some t, some u => some (headW r E ++ [t, r.msg, u])
    | _, _ => none := by unfold tellR; rw [HF.out]; rfl
  unfold TellR
  obtain ⟨x, hx⟩ : ∃ x, tellR r E = x := ⟨_, rfl⟩
  rw [hx]
  rw [hx] at htr
  have HX := Lib.hid htr
  clear htr hx
  have BW := World.alloc_heap_new w (.cells (rowA r v) 70)
  obtain ⟨w0, hw0⟩ : ∃ w0, w.alloc (.cells (rowA r v) 70) = w0 := ⟨_, rfl⟩
  obtain ⟨RB, hRB⟩ : ∃ RB, w.heap.size = RB := ⟨_, rfl⟩
  have HRB : Hid (RowBox w0 RB r v) := Lib.hid (by rw [← hw0, ← hRB]; exact BW)
  have T0 : Hid (Turn Nn w w0) := Lib.hid (by rw [← hw0]; exact (Turn.refl Nn w).alloc _)
  have HE0 := Lib.hid (HE.out.turn T0.out)
  have HW0 := Lib.hid (HW.out.turn T0.out)
  have hw0' : w.alloc (.cells #[.int .i64 r.kind, .int .i64 r.tag, .string (BT r.word), .string (BT r.msg), v] 70) = w0 := hw0
  clear BW hw0
  unfold rowA
  go_enter Tryz.func45, Tryz.ntmps45
  go_upto_region 1 with (fail)
  try rw [hw0']
  try rw [hRB]
  clear hw0' hRB
  refine held_begin (fun u => EvAt u B E ∧ RowBox u RB r v) (by kernel_rfl) ?_
  generalize hwd : World.drew w0 = wd
  have VD : Hid (Turn Nn w wd) := Lib.hid (by rw [← hwd]; exact T0.out.drew)
  have SD : Hid (EvAt wd B E ∧ RowBox wd RB r v) := Lib.hid (by rw [← hwd]; exact ⟨HE0.out, HRB.out⟩)
  have HWD : Hid (Laid wd) := Lib.hid (HW.out.turn VD.out)
  clear hwd
  refine held_take 0 ?_ rfl (by kernel_rfl) (by kernel_rfl) (by kernel_rfl) (fun _ _ _ h => h) (Or.inl ⟨by kernel_rfl, ?_⟩) SD.out ?_
  rotate_left 1
  · intro u hu; obtain ⟨hu1, hu2⟩ := hu; obtain ⟨y0, y1, y2, y3, y4, y5, y6, y7, y8⟩ := evCells hu1; obtain ⟨x0, x1, x2, x3, x4⟩ := rowCells hu2; go_simp; first | done | with_reducible rfl
  try simp only [Act.put, nA, nB, nC, nD, nE, nF]
  refine held_take 1 ?_ rfl (by kernel_rfl) (by kernel_rfl) (by kernel_rfl) (fun _ _ _ h => h) (Or.inl ⟨by kernel_rfl, ?_⟩) SD.out ?_
  rotate_left 1
  · intro u hu; obtain ⟨hu1, hu2⟩ := hu; obtain ⟨y0, y1, y2, y3, y4, y5, y6, y7, y8⟩ := evCells hu1; obtain ⟨x0, x1, x2, x3, x4⟩ := rowCells hu2; go_simp; first | done | with_reducible rfl
  try simp only [Act.put, nA, nB, nC, nD, nE, nF]
  refine held_take 2 ?_ rfl (by kernel_rfl) (by kernel_rfl) (by kernel_rfl) (fun _ _ _ h => h) (Or.inl ⟨by kernel_rfl, ?_⟩) SD.out ?_
  rotate_left 1
  · intro u hu; obtain ⟨hu1, hu2⟩ := hu; obtain ⟨y0, y1, y2, y3, y4, y5, y6, y7, y8⟩ := evCells hu1; obtain ⟨x0, x1, x2, x3, x4⟩ := rowCells hu2; go_simp; first | done | with_reducible rfl
  try simp only [Act.put, nA, nB, nC, nD, nE, nF]
  refine held_take 3 ?_ rfl (by kernel_rfl) (by kernel_rfl) (by kernel_rfl) (fun _ _ _ h => h) (Or.inl ⟨by kernel_rfl, ?_⟩) SD.out ?_
  rotate_left 1
  · intro u hu; obtain ⟨hu1, hu2⟩ := hu; obtain ⟨y0, y1, y2, y3, y4, y5, y6, y7, y8⟩ := evCells hu1; obtain ⟨x0, x1, x2, x3, x4⟩ := rowCells hu2; go_simp; first | done | with_reducible rfl
  try simp only [Act.put, nA, nB, nC, nD, nE, nF]
  refine held_take 5 ?_ rfl (by kernel_rfl) (by kernel_rfl) (by kernel_rfl) (fun _ _ _ h => h) (Or.inl ⟨by kernel_rfl, ?_⟩) SD.out ?_
  rotate_left 1
  · intro u hu; obtain ⟨hu1, hu2⟩ := hu; obtain ⟨y0, y1, y2, y3, y4, y5, y6, y7, y8⟩ := evCells hu1; obtain ⟨x0, x1, x2, x3, x4⟩ := rowCells hu2; go_simp; first | done | with_reducible rfl
  try simp only [Act.put, nA, nB, nC, nD, nE, nF]
  refine held_take 6 ?_ rfl (by kernel_rfl) (by kernel_rfl) (by kernel_rfl) (fun _ _ _ h => h) (Or.inl ⟨by kernel_rfl, ?_⟩) SD.out ?_
  rotate_left 1
  · intro u hu; obtain ⟨hu1, hu2⟩ := hu; obtain ⟨y0, y1, y2, y3, y4, y5, y6, y7, y8⟩ := evCells hu1; obtain ⟨x0, x1, x2, x3, x4⟩ := rowCells hu2; go_simp; first | done | with_reducible rfl
  try simp only [Act.put, nA, nB, nC, nD, nE, nF]
  refine held_take 7 ?_ rfl (by kernel_rfl) (by kernel_rfl) (by kernel_rfl) (fun _ _ _ h => h) (Or.inl ⟨by kernel_rfl, ?_⟩) SD.out ?_
  rotate_left 1
  · intro u hu; obtain ⟨hu1, hu2⟩ := hu; obtain ⟨y0, y1, y2, y3, y4, y5, y6, y7, y8⟩ := evCells hu1; obtain ⟨x0, x1, x2, x3, x4⟩ := rowCells hu2; go_simp; first | done | with_reducible rfl
  try simp only [Act.put, nA, nB, nC, nD, nE, nF]
  refine held_take 8 ?_ rfl (by kernel_rfl) (by kernel_rfl) (by kernel_rfl) (fun _ _ _ h => h) (Or.inl ⟨by kernel_rfl, ?_⟩) SD.out ?_
  rotate_left 1
  · intro u hu; obtain ⟨hu1, hu2⟩ := hu; obtain ⟨y0, y1, y2, y3, y4, y5, y6, y7, y8⟩ := evCells hu1; obtain ⟨x0, x1, x2, x3, x4⟩ := rowCells hu2; go_simp; first | done | with_reducible rfl
  try simp only [Act.put, nA, nB, nC, nD, nE, nF]
  refine held_take 9 ?_ rfl (by kernel_rfl) (by kernel_rfl) (by kernel_rfl) (fun _ _ _ h => h) (Or.inl ⟨by kernel_rfl, ?_⟩) SD.out ?_
  rotate_left 1
  · intro u hu; obtain ⟨hu1, hu2⟩ := hu; obtain ⟨y0, y1, y2, y3, y4, y5, y6, y7, y8⟩ := evCells hu1; obtain ⟨x0, x1, x2, x3, x4⟩ := rowCells hu2; go_simp; first | done | with_reducible rfl
  try simp only [Act.put, nA, nB, nC, nD, nE, nF]
  refine held_take 10 ?_ rfl (by kernel_rfl) (by kernel_rfl) (by kernel_rfl) (fun _ _ _ h => h) (Or.inl ⟨by kernel_rfl, ?_⟩) SD.out ?_
  rotate_left 1
  · intro u hu; obtain ⟨hu1, hu2⟩ := hu; obtain ⟨y0, y1, y2, y3, y4, y5, y6, y7, y8⟩ := evCells hu1; obtain ⟨x0, x1, x2, x3, x4⟩ := rowCells hu2; go_simp; first | done | with_reducible rfl
  try simp only [Act.put, nA, nB, nC, nD, nE, nF]
  refine held_take 11 ?_ rfl (by kernel_rfl) (by kernel_rfl) (by kernel_rfl) (fun _ _ _ h => h) (Or.inl ⟨by kernel_rfl, ?_⟩) SD.out ?_
  rotate_left 1
  · intro u hu; obtain ⟨hu1, hu2⟩ := hu; obtain ⟨y0, y1, y2, y3, y4, y5, y6, y7, y8⟩ := evCells hu1; obtain ⟨x0, x1, x2, x3, x4⟩ := rowCells hu2; go_simp; first | done | with_reducible rfl
  try simp only [Act.put, nA, nB, nC, nD, nE, nF]
  refine held_take 12 ?_ rfl (by kernel_rfl) (by kernel_rfl) (by kernel_rfl) (fun _ _ _ h => h) (Or.inl ⟨by kernel_rfl, ?_⟩) SD.out ?_
  rotate_left 1
  · intro u hu; obtain ⟨hu1, hu2⟩ := hu; obtain ⟨y0, y1, y2, y3, y4, y5, y6, y7, y8⟩ := evCells hu1; obtain ⟨x0, x1, x2, x3, x4⟩ := rowCells hu2; go_simp; first | done | with_reducible rfl
  try simp only [Act.put, nA, nB, nC, nD, nE, nF]
  refine held_take 13 ?_ rfl (by kernel_rfl) (by kernel_rfl) (by kernel_rfl) (fun _ _ _ h => h) (Or.inl ⟨by kernel_rfl, ?_⟩) SD.out ?_
  rotate_left 1
  · intro u hu; obtain ⟨hu1, hu2⟩ := hu; obtain ⟨y0, y1, y2, y3, y4, y5, y6, y7, y8⟩ := evCells hu1; obtain ⟨x0, x1, x2, x3, x4⟩ := rowCells hu2; go_simp; first | done | with_reducible rfl
  try simp only [Act.put, nA, nB, nC, nD, nE, nF]
  refine held_take 16 ?_ rfl (by kernel_rfl) (by kernel_rfl) (by kernel_rfl) (fun _ _ _ h => h) (Or.inl ⟨by kernel_rfl, ?_⟩) SD.out ?_
  rotate_left 1
  · intro u hu; obtain ⟨hu1, hu2⟩ := hu; obtain ⟨y0, y1, y2, y3, y4, y5, y6, y7, y8⟩ := evCells hu1; obtain ⟨x0, x1, x2, x3, x4⟩ := rowCells hu2; go_simp; first | done | with_reducible rfl
  try simp only [Act.put, nA, nB, nC, nD, nE, nF]
  refine held_take 17 ?_ rfl (by kernel_rfl) (by kernel_rfl) (by kernel_rfl) (fun _ _ _ h => h) (Or.inl ⟨by kernel_rfl, ?_⟩) SD.out ?_
  rotate_left 1
  · intro u hu; obtain ⟨hu1, hu2⟩ := hu; obtain ⟨y0, y1, y2, y3, y4, y5, y6, y7, y8⟩ := evCells hu1; obtain ⟨x0, x1, x2, x3, x4⟩ := rowCells hu2; go_simp; first | done | with_reducible rfl
  try simp only [Act.put, nA, nB, nC, nD, nE, nF]
  refine held_one 4 (by kernel_rfl) rfl (by kernel_rfl) (fun K hK => ?_)
  go_simp
  refine (HI1 _ HWD.out).out.mono ?_
  rintro e u1 ⟨rfl, t1⟩
  have V1 := Lib.hid (VD.out.trans t1)
  have S1 : Hid (EvAt u1 B E ∧ RowBox u1 RB r v) := Lib.hid ⟨SD.out.1.turn t1, SD.out.2.turn t1⟩
  clear t1
  refine hK _ _ S1.out ?_
  clear hK K
  try simp only [Act.put, nA, nB, nC, nD, nE, nF]
  refine held_one 14 (by kernel_rfl) rfl (by kernel_rfl) (fun K hK => ?_)
  go_simp
  refine (HI2 _ (HW.out.turn V1.out)).out.mono ?_
  rintro e u2 ⟨rfl, t2⟩
  have V2 := Lib.hid (V1.out.trans t2)
  have S2 : Hid (EvAt u2 B E ∧ RowBox u2 RB r v) := Lib.hid ⟨S1.out.1.turn t2, S1.out.2.turn t2⟩
  clear t2
  refine hK _ _ S2.out ?_
  clear hK K
  try simp only [Act.put, nA, nB, nC, nD, nE, nF]
  refine held_take 15 ?_ rfl (by kernel_rfl) (by kernel_rfl) (by kernel_rfl) (fun _ _ _ h => h) (Or.inl ⟨by kernel_rfl, ?_⟩) S2.out ?_
  rotate_left 1
  · intro u hu; obtain ⟨hu1, hu2⟩ := hu; obtain ⟨y0, y1, y2, y3, y4, y5, y6, y7, y8⟩ := evCells hu1; obtain ⟨x0, x1, x2, x3, x4⟩ := rowCells hu2; go_simp; first | done | with_reducible rfl
  try simp only [Act.put, nA, nB, nC, nD, nE, nF]
  obtain ⟨u3, hu3⟩ : ∃ u3, u2.alloc (.cells #[.string I1, .string Z, .string (BT r.word)] 9) = u3 := ⟨_, rfl⟩
  have OW3 : Hid (OWS w (.slice (some ⟨u2.heap.size, 0, none⟩) 3 3) (headW r E) u3) := Lib.hid (by rw [← hu3, ← HI1B.out, ← HZB.out]; exact OWS.lit3 V2.out _ _ _)
  have t3 : Turn Nn u2 u3 := by rw [← hu3]; exact (Turn.refl Nn u2).alloc _
  have V3 := Lib.hid (V2.out.trans t3)
  have S3 : Hid (EvAt u3 B E ∧ RowBox u3 RB r v) := Lib.hid ⟨S2.out.1.turn t3, S2.out.2.turn t3⟩
  clear t3
  refine held_one 18 (by kernel_rfl) rfl (by kernel_rfl) (fun K hK => ?_)
  go_simp
  refine hK _ _ S3.out ?_
  clear hK K
  try simp only [Act.put, nA, nB, nC, nD, nE, nF]
  clear hu3
  refine held_take 19 ?_ rfl (by kernel_rfl) (by kernel_rfl) (by kernel_rfl) (fun _ _ _ h => h) (Or.inl ⟨by kernel_rfl, ?_⟩) S3.out ?_
  rotate_left 1
  · intro u hu; obtain ⟨hu1, hu2⟩ := hu; obtain ⟨y0, y1, y2, y3, y4, y5, y6, y7, y8⟩ := evCells hu1; obtain ⟨x0, x1, x2, x3, x4⟩ := rowCells hu2; go_simp; first | done | with_reducible rfl
  try simp only [Act.put, nA, nB, nC, nD, nE, nF]
  refine wpAnyH_done (by kernel_rfl) ?_ _
  obtain ⟨n3, hn3⟩ : ∃ n, u2.heap.size = n := ⟨_, rfl⟩
  have HN3 : Hid (RB < n3) := Lib.hid (by rw [← hn3]; exact heap_lt S2.out.2)
  rw [hn3] at OW3 ⊢
  clear hn3
  obtain ⟨x0, x1, x2, x3, x4⟩ := rowCells S3.out.2
  rw [HVE.out] at x4
  have FB3 : Hid (u3.heap[b]? = some (.cells #[.func (.func 98) #[] #[], .func (.func 99) #[] #[], .func (.func 101) #[] #[.pointer (some ⟨bx, 0, none⟩)], .func (.func 102) #[] #[.pointer (some ⟨bx, 0, none⟩)]] 95)) := Lib.hid ((V3.out.block b (heap_lt HBF.out) (fun h => h)).trans HBF.out)
  have f0 : u3.cell? ⟨b, 0, none⟩ = some (.func (.func 98) #[] #[]) := cell_blk FB3.out
  have f1 : u3.cell? ⟨b, 1, none⟩ = some (.func (.func 99) #[] #[]) := cell_blk FB3.out
  obtain ⟨k1, k2, k3, e1, e2, e3, kb, tb⟩ := box95 u3 (t := .func (.func 98) #[] #[]) (r := .func (.func 99) #[] #[]) rfl rfl
  have g0 : k3.cell? ⟨u3.heap.size, 0, none⟩ = some (.func (.func 98) #[] #[]) := cell_blk kb
  have V4 := Lib.hid (V3.out.trans tb)
  have OW4 := Lib.hid (OW3.out.turn tb)
  have HT := Lib.hid (told_place HS.out (S3.out.1.turn tb) (HW.out.turn V4.out))
  have tb0 := Lib.hid tb
  clear kb tb
  go_wp2_with fail
  refine wp_loop_rounds 3 ?_
  rw [rounds_succ]
  go_wp2_with fail
  refine HT.out.mono ?_
  rintro e u5 ⟨he, t5⟩
  have V5 := Lib.hid (V4.out.trans t5)
  have OW5 := Lib.hid (OW4.out.turn t5)
  have RB5 := Lib.hid ((S3.out.2.turn tb0.out).turn t5)
  clear t5 f0 f1 e1 e2 e3 g0
  cases htl : tellF .place E with
  | none =>
    rw [htl] at he
    obtain rfl : e = badE := he
    obtain rfl : x = none := by rw [HX.out, htl]
    exact ⟨rfl, ⟨rfl, V5.out⟩⟩
  | some tx =>
    rw [htl] at he
    obtain rfl : e = .returned (.string (BT tx)) := he
    have HTL := Lib.hid htl
    obtain ⟨pb, nb, cb, u6, hrun, hO, hkp⟩ := OW5.out.push2 tx 25 (by simp [headW])
    have HR := Lib.hid hrun
    have OW6 := Lib.hid hO
    have RB6 : Hid (RowBox u6 RB r v) := Lib.hid ((hkp RB (heap_lt RB5.out) (fun e => by have h1 := HN3.out; have h2 : n3 = RB := Option.some.inj e; omega)).trans RB5.out)
    clear hrun hO htl hkp
    go_wp2_with (at_builtin; refine wpList_append_eq rfl _ _ 25 rfl _ _ rfl rfl HR.out ?_)
    have V6 := Lib.hid OW6.out.low
    have FB6 : Hid (u6.heap[b]? = some (.cells #[.func (.func 98) #[] #[], .func (.func 99) #[] #[], .func (.func 101) #[] #[.pointer (some ⟨bx, 0, none⟩)], .func (.func 102) #[] #[.pointer (some ⟨bx, 0, none⟩)]] 95)) := Lib.hid ((V6.out.block b (heap_lt HBF.out) (fun h => h)).trans HBF.out)
    have f2 : u6.cell? ⟨b, 2, none⟩ = some (.func (.func 101) #[] #[.pointer (some ⟨bx, 0, none⟩)]) := cell_blk FB6.out
    have f3 : u6.cell? ⟨b, 3, none⟩ = some (.func (.func 102) #[] #[.pointer (some ⟨bx, 0, none⟩)]) := cell_blk FB6.out
    obtain ⟨k1, k2, k3, e1, e2, e3, kb, tb⟩ := box95 u6 (t := .func (.func 101) #[] #[.pointer (some ⟨bx, 0, none⟩)]) (r := .func (.func 102) #[] #[.pointer (some ⟨bx, 0, none⟩)]) rfl rfl
    have x3' := (rowCells (RB6.out.turn tb)).2.2.2.1
    obtain ⟨pc, nc, cc, u7, hrun7, hO7, hk7⟩ := (OW6.out.turn tb).push2 r.msg 25 (by simp [headW])
    have g0 : u7.cell? ⟨u6.heap.size, 0, none⟩ = some (.func (.func 101) #[] #[.pointer (some ⟨bx, 0, none⟩)]) := cell_blk ((hk7 _ (heap_lt kb) (fun e => by have := (OW6.out.own.lt _ e).2; omega)).trans kb)
    have HR7 := Lib.hid hrun7
    have OW7 := Lib.hid hO7
    have V7 := Lib.hid hO7.low
    have HT2 := Lib.hid (told_label HS.out (HE.out.turn V7.out) (HBX.out.turn V7.out) (HW.out.turn V7.out))
    clear kb tb hrun7 hO7 hk7 HR x0 x1 x2 x3 x4
    rw [rounds_succ]
    go_wp2_with (at_builtin; refine wpList_append_eq rfl _ _ 25 rfl _ _ rfl rfl HR7.out ?_)
    refine HT2.out.mono ?_
    rintro e u8 ⟨he, t8⟩
    have V8 := Lib.hid (V7.out.trans t8)
    have OW8 := Lib.hid (OW7.out.turn t8)
    clear t8 f2 f3 e1 e2 e3 g0 x3'
    cases htl2 : tellF .label E with
    | none =>
      rw [htl2] at he
      obtain rfl : e = badE := he
      obtain rfl : x = none := by rw [HX.out, HTL.out, htl2]
      exact ⟨rfl, ⟨rfl, V8.out⟩⟩
    | some ux =>
      rw [htl2] at he
      obtain rfl : e = .returned (.string (BT ux)) := he
      have HXE : Hid (x = some ((headW r E ++ [tx]) ++ [r.msg] ++ [ux])) := Lib.hid (by rw [HX.out, HTL.out, htl2]; simp)
      obtain ⟨pd, nd, cd, u9, hrun9, hO9⟩ := OW8.out.push ux 25 (by simp [headW])
      have HR9 := Lib.hid hrun9
      have OW9 := Lib.hid hO9
      clear hrun9 hO9 htl2
      go_wp2_with (at_builtin; refine wpList_append_eq rfl _ _ 25 rfl _ _ rfl rfl HR9.out ?_)
      rw [rounds_succ]
      go_wp2_with fail
      go_ret
      obtain rfl := HXE.out
      exact ⟨_, rfl, OW9.out⟩
set_option maxRecDepth 100000 in
set_option maxHeartbeats 16000000 in
theorem tell_two_handed {r : RowD} {E : EventD} (hf : r.flds = [.place, .handed]) (hs : ESmall E) {B : Nat} {v : Value} {w : World} (hE : EvAt w B E) (hv : FSl w v r.flds) (hw : Laid w) :
    Calls Tryz.prog 45 #[.agg (rowA r v), .pointer (some ⟨B, 0, none⟩)] w (TellR w r E) := by
  have HW := Lib.hid hw
  have HE := Lib.hid hE
  have HS := Lib.hid hs
  have HI1 := fun w (h : Laid w) => Lib.hid (itoa_any hs.ints.slot h)
  have HI2 := fun w (h : Laid w) => Lib.hid (itoa_any hs.ints.pc h)
  obtain ⟨I1, hI1⟩ : ∃ I, BT (Lib.itoa E.slot) = I := ⟨_, rfl⟩
  obtain ⟨I2, hI2⟩ : ∃ I, BT (Lib.itoa E.pc) = I := ⟨_, rfl⟩
  obtain ⟨Z, hZ⟩ : ∃ Z, BT (E.actor ++ 64 :: Lib.itoa E.pc) = Z := ⟨_, rfl⟩
  obtain ⟨Y, hY⟩ : ∃ Y, BT (E.actor ++ [64]) = Y := ⟨_, rfl⟩
  have hal := hs.actor
  have hpl := itoa_len hs.ints.pc
  have hcat1 : ∀ W : World, (Op.stringOp .add (BT E.actor) ⟨#[64]⟩).run Tryz.prog W = .ok (.string Y) W := fun W => by
    rw [← hY]; exact cat_run (a := E.actor) (b := [64]) (by simp; omega) W
  have hcat2 : ∀ W : World, (Op.stringOp .add Y I2).run Tryz.prog W = .ok (.string Z) W := fun W => by
    rw [← hY, ← hZ, ← hI2]
    have := cat_run (a := E.actor ++ [64]) (b := Lib.itoa E.pc) (by simp; omega) W
    rw [this]; simp
  simp only [hI1] at HI1
  simp only [hI2] at HI2
  have HI1B := Lib.hid hI1
  have HZB := Lib.hid hZ
  rw [hf] at hv
  have HF := Lib.hid hf
  clear hw hE hs hI1 hI2 hZ hY hal hpl hf
  obtain ⟨b, _, _, _, _, hve, hb, ⟨rfl, rfl⟩, ⟨bx, rfl, rfl, hx0⟩⟩ := hv
  have HVE := Lib.hid hve
  clear hve
  have HBF := Lib.hid hb
  have HBX := Lib.hid hx0
  clear hx0
  clear hb
  have htr : tellR r E = match tellF .place E, tellF .handed E with
    | some t, some u => some (headW r E ++ [t, r.msg, u])
    | _, _ => none := by unfold tellR; rw [HF.out]; rfl
  unfold TellR
  obtain ⟨x, hx⟩ : ∃ x, tellR r E = x := ⟨_, rfl⟩
  rw [hx]
  rw [hx] at htr
  have HX := Lib.hid htr
  clear htr hx
  have BW := World.alloc_heap_new w (.cells (rowA r v) 70)
  obtain ⟨w0, hw0⟩ : ∃ w0, w.alloc (.cells (rowA r v) 70) = w0 := ⟨_, rfl⟩
  obtain ⟨RB, hRB⟩ : ∃ RB, w.heap.size = RB := ⟨_, rfl⟩
  have HRB : Hid (RowBox w0 RB r v) := Lib.hid (by rw [← hw0, ← hRB]; exact BW)
  have T0 : Hid (Turn Nn w w0) := Lib.hid (by rw [← hw0]; exact (Turn.refl Nn w).alloc _)
  have HE0 := Lib.hid (HE.out.turn T0.out)
  have HW0 := Lib.hid (HW.out.turn T0.out)
  have hw0' : w.alloc (.cells #[.int .i64 r.kind, .int .i64 r.tag, .string (BT r.word), .string (BT r.msg), v] 70) = w0 := hw0
  clear BW hw0
  unfold rowA
  go_enter Tryz.func45, Tryz.ntmps45
  go_upto_region 1 with (fail)
  try rw [hw0']
  try rw [hRB]
  clear hw0' hRB
  refine held_begin (fun u => EvAt u B E ∧ RowBox u RB r v) (by kernel_rfl) ?_
  generalize hwd : World.drew w0 = wd
  have VD : Hid (Turn Nn w wd) := Lib.hid (by rw [← hwd]; exact T0.out.drew)
  have SD : Hid (EvAt wd B E ∧ RowBox wd RB r v) := Lib.hid (by rw [← hwd]; exact ⟨HE0.out, HRB.out⟩)
  have HWD : Hid (Laid wd) := Lib.hid (HW.out.turn VD.out)
  clear hwd
  refine held_take 0 ?_ rfl (by kernel_rfl) (by kernel_rfl) (by kernel_rfl) (fun _ _ _ h => h) (Or.inl ⟨by kernel_rfl, ?_⟩) SD.out ?_
  rotate_left 1
  · intro u hu; obtain ⟨hu1, hu2⟩ := hu; obtain ⟨y0, y1, y2, y3, y4, y5, y6, y7, y8⟩ := evCells hu1; obtain ⟨x0, x1, x2, x3, x4⟩ := rowCells hu2; go_simp; first | done | with_reducible rfl
  try simp only [Act.put, nA, nB, nC, nD, nE, nF]
  refine held_take 1 ?_ rfl (by kernel_rfl) (by kernel_rfl) (by kernel_rfl) (fun _ _ _ h => h) (Or.inl ⟨by kernel_rfl, ?_⟩) SD.out ?_
  rotate_left 1
  · intro u hu; obtain ⟨hu1, hu2⟩ := hu; obtain ⟨y0, y1, y2, y3, y4, y5, y6, y7, y8⟩ := evCells hu1; obtain ⟨x0, x1, x2, x3, x4⟩ := rowCells hu2; go_simp; first | done | with_reducible rfl
  try simp only [Act.put, nA, nB, nC, nD, nE, nF]
  refine held_take 2 ?_ rfl (by kernel_rfl) (by kernel_rfl) (by kernel_rfl) (fun _ _ _ h => h) (Or.inl ⟨by kernel_rfl, ?_⟩) SD.out ?_
  rotate_left 1
  · intro u hu; obtain ⟨hu1, hu2⟩ := hu; obtain ⟨y0, y1, y2, y3, y4, y5, y6, y7, y8⟩ := evCells hu1; obtain ⟨x0, x1, x2, x3, x4⟩ := rowCells hu2; go_simp; first | done | with_reducible rfl
  try simp only [Act.put, nA, nB, nC, nD, nE, nF]
  refine held_take 3 ?_ rfl (by kernel_rfl) (by kernel_rfl) (by kernel_rfl) (fun _ _ _ h => h) (Or.inl ⟨by kernel_rfl, ?_⟩) SD.out ?_
  rotate_left 1
  · intro u hu; obtain ⟨hu1, hu2⟩ := hu; obtain ⟨y0, y1, y2, y3, y4, y5, y6, y7, y8⟩ := evCells hu1; obtain ⟨x0, x1, x2, x3, x4⟩ := rowCells hu2; go_simp; first | done | with_reducible rfl
  try simp only [Act.put, nA, nB, nC, nD, nE, nF]
  refine held_take 5 ?_ rfl (by kernel_rfl) (by kernel_rfl) (by kernel_rfl) (fun _ _ _ h => h) (Or.inl ⟨by kernel_rfl, ?_⟩) SD.out ?_
  rotate_left 1
  · intro u hu; obtain ⟨hu1, hu2⟩ := hu; obtain ⟨y0, y1, y2, y3, y4, y5, y6, y7, y8⟩ := evCells hu1; obtain ⟨x0, x1, x2, x3, x4⟩ := rowCells hu2; go_simp; first | done | with_reducible rfl
  try simp only [Act.put, nA, nB, nC, nD, nE, nF]
  refine held_take 6 ?_ rfl (by kernel_rfl) (by kernel_rfl) (by kernel_rfl) (fun _ _ _ h => h) (Or.inl ⟨by kernel_rfl, ?_⟩) SD.out ?_
  rotate_left 1
  · intro u hu; obtain ⟨hu1, hu2⟩ := hu; obtain ⟨y0, y1, y2, y3, y4, y5, y6, y7, y8⟩ := evCells hu1; obtain ⟨x0, x1, x2, x3, x4⟩ := rowCells hu2; go_simp; first | done | with_reducible rfl
  try simp only [Act.put, nA, nB, nC, nD, nE, nF]
  refine held_take 7 ?_ rfl (by kernel_rfl) (by kernel_rfl) (by kernel_rfl) (fun _ _ _ h => h) (Or.inl ⟨by kernel_rfl, ?_⟩) SD.out ?_
  rotate_left 1
  · intro u hu; obtain ⟨hu1, hu2⟩ := hu; obtain ⟨y0, y1, y2, y3, y4, y5, y6, y7, y8⟩ := evCells hu1; obtain ⟨x0, x1, x2, x3, x4⟩ := rowCells hu2; go_simp; first | done | with_reducible rfl
  try simp only [Act.put, nA, nB, nC, nD, nE, nF]
  refine held_take 8 ?_ rfl (by kernel_rfl) (by kernel_rfl) (by kernel_rfl) (fun _ _ _ h => h) (Or.inl ⟨by kernel_rfl, ?_⟩) SD.out ?_
  rotate_left 1
  · intro u hu; obtain ⟨hu1, hu2⟩ := hu; obtain ⟨y0, y1, y2, y3, y4, y5, y6, y7, y8⟩ := evCells hu1; obtain ⟨x0, x1, x2, x3, x4⟩ := rowCells hu2; go_simp; first | done | with_reducible rfl
  try simp only [Act.put, nA, nB, nC, nD, nE, nF]
  refine held_take 9 ?_ rfl (by kernel_rfl) (by kernel_rfl) (by kernel_rfl) (fun _ _ _ h => h) (Or.inl ⟨by kernel_rfl, ?_⟩) SD.out ?_
  rotate_left 1
  · intro u hu; obtain ⟨hu1, hu2⟩ := hu; obtain ⟨y0, y1, y2, y3, y4, y5, y6, y7, y8⟩ := evCells hu1; obtain ⟨x0, x1, x2, x3, x4⟩ := rowCells hu2; go_simp; first | done | with_reducible rfl
  try simp only [Act.put, nA, nB, nC, nD, nE, nF]
  refine held_take 10 ?_ rfl (by kernel_rfl) (by kernel_rfl) (by kernel_rfl) (fun _ _ _ h => h) (Or.inl ⟨by kernel_rfl, ?_⟩) SD.out ?_
  rotate_left 1
  · intro u hu; obtain ⟨hu1, hu2⟩ := hu; obtain ⟨y0, y1, y2, y3, y4, y5, y6, y7, y8⟩ := evCells hu1; obtain ⟨x0, x1, x2, x3, x4⟩ := rowCells hu2; go_simp; first | done | with_reducible rfl
  try simp only [Act.put, nA, nB, nC, nD, nE, nF]
  refine held_take 11 ?_ rfl (by kernel_rfl) (by kernel_rfl) (by kernel_rfl) (fun _ _ _ h => h) (Or.inl ⟨by kernel_rfl, ?_⟩) SD.out ?_
  rotate_left 1
  · intro u hu; obtain ⟨hu1, hu2⟩ := hu; obtain ⟨y0, y1, y2, y3, y4, y5, y6, y7, y8⟩ := evCells hu1; obtain ⟨x0, x1, x2, x3, x4⟩ := rowCells hu2; go_simp; first | done | with_reducible rfl
  try simp only [Act.put, nA, nB, nC, nD, nE, nF]
  refine held_take 12 ?_ rfl (by kernel_rfl) (by kernel_rfl) (by kernel_rfl) (fun _ _ _ h => h) (Or.inl ⟨by kernel_rfl, ?_⟩) SD.out ?_
  rotate_left 1
  · intro u hu; obtain ⟨hu1, hu2⟩ := hu; obtain ⟨y0, y1, y2, y3, y4, y5, y6, y7, y8⟩ := evCells hu1; obtain ⟨x0, x1, x2, x3, x4⟩ := rowCells hu2; go_simp; first | done | with_reducible rfl
  try simp only [Act.put, nA, nB, nC, nD, nE, nF]
  refine held_take 13 ?_ rfl (by kernel_rfl) (by kernel_rfl) (by kernel_rfl) (fun _ _ _ h => h) (Or.inl ⟨by kernel_rfl, ?_⟩) SD.out ?_
  rotate_left 1
  · intro u hu; obtain ⟨hu1, hu2⟩ := hu; obtain ⟨y0, y1, y2, y3, y4, y5, y6, y7, y8⟩ := evCells hu1; obtain ⟨x0, x1, x2, x3, x4⟩ := rowCells hu2; go_simp; first | done | with_reducible rfl
  try simp only [Act.put, nA, nB, nC, nD, nE, nF]
  refine held_take 16 ?_ rfl (by kernel_rfl) (by kernel_rfl) (by kernel_rfl) (fun _ _ _ h => h) (Or.inl ⟨by kernel_rfl, ?_⟩) SD.out ?_
  rotate_left 1
  · intro u hu; obtain ⟨hu1, hu2⟩ := hu; obtain ⟨y0, y1, y2, y3, y4, y5, y6, y7, y8⟩ := evCells hu1; obtain ⟨x0, x1, x2, x3, x4⟩ := rowCells hu2; go_simp; first | done | with_reducible rfl
  try simp only [Act.put, nA, nB, nC, nD, nE, nF]
  refine held_take 17 ?_ rfl (by kernel_rfl) (by kernel_rfl) (by kernel_rfl) (fun _ _ _ h => h) (Or.inl ⟨by kernel_rfl, ?_⟩) SD.out ?_
  rotate_left 1
  · intro u hu; obtain ⟨hu1, hu2⟩ := hu; obtain ⟨y0, y1, y2, y3, y4, y5, y6, y7, y8⟩ := evCells hu1; obtain ⟨x0, x1, x2, x3, x4⟩ := rowCells hu2; go_simp; first | done | with_reducible rfl
  try simp only [Act.put, nA, nB, nC, nD, nE, nF]
  refine held_one 4 (by kernel_rfl) rfl (by kernel_rfl) (fun K hK => ?_)
  go_simp
  refine (HI1 _ HWD.out).out.mono ?_
  rintro e u1 ⟨rfl, t1⟩
  have V1 := Lib.hid (VD.out.trans t1)
  have S1 : Hid (EvAt u1 B E ∧ RowBox u1 RB r v) := Lib.hid ⟨SD.out.1.turn t1, SD.out.2.turn t1⟩
  clear t1
  refine hK _ _ S1.out ?_
  clear hK K
  try simp only [Act.put, nA, nB, nC, nD, nE, nF]
  refine held_one 14 (by kernel_rfl) rfl (by kernel_rfl) (fun K hK => ?_)
  go_simp
  refine (HI2 _ (HW.out.turn V1.out)).out.mono ?_
  rintro e u2 ⟨rfl, t2⟩
  have V2 := Lib.hid (V1.out.trans t2)
  have S2 : Hid (EvAt u2 B E ∧ RowBox u2 RB r v) := Lib.hid ⟨S1.out.1.turn t2, S1.out.2.turn t2⟩
  clear t2
  refine hK _ _ S2.out ?_
  clear hK K
  try simp only [Act.put, nA, nB, nC, nD, nE, nF]
  refine held_take 15 ?_ rfl (by kernel_rfl) (by kernel_rfl) (by kernel_rfl) (fun _ _ _ h => h) (Or.inl ⟨by kernel_rfl, ?_⟩) S2.out ?_
  rotate_left 1
  · intro u hu; obtain ⟨hu1, hu2⟩ := hu; obtain ⟨y0, y1, y2, y3, y4, y5, y6, y7, y8⟩ := evCells hu1; obtain ⟨x0, x1, x2, x3, x4⟩ := rowCells hu2; go_simp; first | done | with_reducible rfl
  try simp only [Act.put, nA, nB, nC, nD, nE, nF]
  obtain ⟨u3, hu3⟩ : ∃ u3, u2.alloc (.cells #[.string I1, .string Z, .string (BT r.word)] 9) = u3 := ⟨_, rfl⟩
  have OW3 : Hid (OWS w (.slice (some ⟨u2.heap.size, 0, none⟩) 3 3) (headW r E) u3) := Lib.hid (by rw [← hu3, ← HI1B.out, ← HZB.out]; exact OWS.lit3 V2.out _ _ _)
  have t3 : Turn Nn u2 u3 := by rw [← hu3]; exact (Turn.refl Nn u2).alloc _
  have V3 := Lib.hid (V2.out.trans t3)
  have S3 : Hid (EvAt u3 B E ∧ RowBox u3 RB r v) := Lib.hid ⟨S2.out.1.turn t3, S2.out.2.turn t3⟩
  clear t3
  refine held_one 18 (by kernel_rfl) rfl (by kernel_rfl) (fun K hK => ?_)
  go_simp
  refine hK _ _ S3.out ?_
  clear hK K
  try simp only [Act.put, nA, nB, nC, nD, nE, nF]
  clear hu3
  refine held_take 19 ?_ rfl (by kernel_rfl) (by kernel_rfl) (by kernel_rfl) (fun _ _ _ h => h) (Or.inl ⟨by kernel_rfl, ?_⟩) S3.out ?_
  rotate_left 1
  · intro u hu; obtain ⟨hu1, hu2⟩ := hu; obtain ⟨y0, y1, y2, y3, y4, y5, y6, y7, y8⟩ := evCells hu1; obtain ⟨x0, x1, x2, x3, x4⟩ := rowCells hu2; go_simp; first | done | with_reducible rfl
  try simp only [Act.put, nA, nB, nC, nD, nE, nF]
  refine wpAnyH_done (by kernel_rfl) ?_ _
  obtain ⟨n3, hn3⟩ : ∃ n, u2.heap.size = n := ⟨_, rfl⟩
  have HN3 : Hid (RB < n3) := Lib.hid (by rw [← hn3]; exact heap_lt S2.out.2)
  rw [hn3] at OW3 ⊢
  clear hn3
  obtain ⟨x0, x1, x2, x3, x4⟩ := rowCells S3.out.2
  rw [HVE.out] at x4
  have FB3 : Hid (u3.heap[b]? = some (.cells #[.func (.func 98) #[] #[], .func (.func 99) #[] #[], .func (.func 104) #[] #[.pointer (some ⟨bx, 0, none⟩)], .func (.func 105) #[] #[.pointer (some ⟨bx, 0, none⟩)]] 95)) := Lib.hid ((V3.out.block b (heap_lt HBF.out) (fun h => h)).trans HBF.out)
  have f0 : u3.cell? ⟨b, 0, none⟩ = some (.func (.func 98) #[] #[]) := cell_blk FB3.out
  have f1 : u3.cell? ⟨b, 1, none⟩ = some (.func (.func 99) #[] #[]) := cell_blk FB3.out
  obtain ⟨k1, k2, k3, e1, e2, e3, kb, tb⟩ := box95 u3 (t := .func (.func 98) #[] #[]) (r := .func (.func 99) #[] #[]) rfl rfl
  have g0 : k3.cell? ⟨u3.heap.size, 0, none⟩ = some (.func (.func 98) #[] #[]) := cell_blk kb
  have V4 := Lib.hid (V3.out.trans tb)
  have OW4 := Lib.hid (OW3.out.turn tb)
  have HT := Lib.hid (told_place HS.out (S3.out.1.turn tb) (HW.out.turn V4.out))
  have tb0 := Lib.hid tb
  clear kb tb
  go_wp2_with fail
  refine wp_loop_rounds 3 ?_
  rw [rounds_succ]
  go_wp2_with fail
  refine HT.out.mono ?_
  rintro e u5 ⟨he, t5⟩
  have V5 := Lib.hid (V4.out.trans t5)
  have OW5 := Lib.hid (OW4.out.turn t5)
  have RB5 := Lib.hid ((S3.out.2.turn tb0.out).turn t5)
  clear t5 f0 f1 e1 e2 e3 g0
  cases htl : tellF .place E with
  | none =>
    rw [htl] at he
    obtain rfl : e = badE := he
    obtain rfl : x = none := by rw [HX.out, htl]
    exact ⟨rfl, ⟨rfl, V5.out⟩⟩
  | some tx =>
    rw [htl] at he
    obtain rfl : e = .returned (.string (BT tx)) := he
    have HTL := Lib.hid htl
    obtain ⟨pb, nb, cb, u6, hrun, hO, hkp⟩ := OW5.out.push2 tx 25 (by simp [headW])
    have HR := Lib.hid hrun
    have OW6 := Lib.hid hO
    have RB6 : Hid (RowBox u6 RB r v) := Lib.hid ((hkp RB (heap_lt RB5.out) (fun e => by have h1 := HN3.out; have h2 : n3 = RB := Option.some.inj e; omega)).trans RB5.out)
    clear hrun hO htl hkp
    go_wp2_with (at_builtin; refine wpList_append_eq rfl _ _ 25 rfl _ _ rfl rfl HR.out ?_)
    have V6 := Lib.hid OW6.out.low
    have FB6 : Hid (u6.heap[b]? = some (.cells #[.func (.func 98) #[] #[], .func (.func 99) #[] #[], .func (.func 104) #[] #[.pointer (some ⟨bx, 0, none⟩)], .func (.func 105) #[] #[.pointer (some ⟨bx, 0, none⟩)]] 95)) := Lib.hid ((V6.out.block b (heap_lt HBF.out) (fun h => h)).trans HBF.out)
    have f2 : u6.cell? ⟨b, 2, none⟩ = some (.func (.func 104) #[] #[.pointer (some ⟨bx, 0, none⟩)]) := cell_blk FB6.out
    have f3 : u6.cell? ⟨b, 3, none⟩ = some (.func (.func 105) #[] #[.pointer (some ⟨bx, 0, none⟩)]) := cell_blk FB6.out
    obtain ⟨k1, k2, k3, e1, e2, e3, kb, tb⟩ := box95 u6 (t := .func (.func 104) #[] #[.pointer (some ⟨bx, 0, none⟩)]) (r := .func (.func 105) #[] #[.pointer (some ⟨bx, 0, none⟩)]) rfl rfl
    have x3' := (rowCells (RB6.out.turn tb)).2.2.2.1
    obtain ⟨pc, nc, cc, u7, hrun7, hO7, hk7⟩ := (OW6.out.turn tb).push2 r.msg 25 (by simp [headW])
    have g0 : u7.cell? ⟨u6.heap.size, 0, none⟩ = some (.func (.func 104) #[] #[.pointer (some ⟨bx, 0, none⟩)]) := cell_blk ((hk7 _ (heap_lt kb) (fun e => by have := (OW6.out.own.lt _ e).2; omega)).trans kb)
    have HR7 := Lib.hid hrun7
    have OW7 := Lib.hid hO7
    have V7 := Lib.hid hO7.low
    have HT2 := Lib.hid (told_handed HS.out (HE.out.turn V7.out) (HBX.out.turn V7.out) (HW.out.turn V7.out))
    clear kb tb hrun7 hO7 hk7 HR x0 x1 x2 x3 x4
    rw [rounds_succ]
    go_wp2_with (at_builtin; refine wpList_append_eq rfl _ _ 25 rfl _ _ rfl rfl HR7.out ?_)
    refine HT2.out.mono ?_
    rintro e u8 ⟨he, t8⟩
    have V8 := Lib.hid (V7.out.trans t8)
    have OW8 := Lib.hid (OW7.out.turn t8)
    clear t8 f2 f3 e1 e2 e3 g0 x3'
    cases htl2 : tellF .handed E with
    | none =>
      rw [htl2] at he
      obtain rfl : e = badE := he
      obtain rfl : x = none := by rw [HX.out, HTL.out, htl2]
      exact ⟨rfl, ⟨rfl, V8.out⟩⟩
    | some ux =>
      rw [htl2] at he
      obtain rfl : e = .returned (.string (BT ux)) := he
      have HXE : Hid (x = some ((headW r E ++ [tx]) ++ [r.msg] ++ [ux])) := Lib.hid (by rw [HX.out, HTL.out, htl2]; simp)
      obtain ⟨pd, nd, cd, u9, hrun9, hO9⟩ := OW8.out.push ux 25 (by simp [headW])
      have HR9 := Lib.hid hrun9
      have OW9 := Lib.hid hO9
      clear hrun9 hO9 htl2
      go_wp2_with (at_builtin; refine wpList_append_eq rfl _ _ 25 rfl _ _ rfl rfl HR9.out ?_)
      rw [rounds_succ]
      go_wp2_with fail
      go_ret
      obtain rfl := HXE.out
      exact ⟨_, rfl, OW9.out⟩
end Go.Proofs.YtpbjblbeepbklaaGreatDoor
