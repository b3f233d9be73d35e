/- The program's walks: how a field is told, and read. Printed by gen_wo.py. The program's walks: how a field is read. Printed by gen_wp.py. -/
import Derived.Test.YtpbjblbeepbklaaGreatDoorKf
namespace Go.Proofs.YtpbjblbeepbklaaGreatDoor
set_option linter.unusedSimpArgs false
set_option linter.unusedVariables false
section
open Go.RowKit Go.Shelf

set_option maxRecDepth 100000 in
set_option maxHeartbeats 8000000 in
theorem told_place {E : EventD} (hs : ESmall E) {B : Nat} {w : World} (hE : EvAt w B E) (hw : Laid w) : Calls Tryz.prog 98 #[.pointer (some ⟨B, 0, none⟩)] w (TellP w (tellF .place E)) := by
  have HW := Lib.hid hw
  have HE := Lib.hid hE
  have hcl := hs.chan
  have hsl := itoa_len hs.side
  have HI := fun w (h : Laid w) => Lib.hid (itoa_any hs.side h)
  obtain ⟨X, hX⟩ : ∃ X, E.chan ++ [58] = X := ⟨_, rfl⟩
  obtain ⟨Z, hZ⟩ : ∃ Z, E.chan ++ 58 :: Lib.itoa E.side = Z := ⟨_, rfl⟩
  have hXZ : X ++ Lib.itoa E.side = Z := by rw [← hX, ← hZ]; simp
  have hXl : X.length ≤ 1100001 := by rw [← hX]; simp; omega
  have hZl : Z.length ≤ 4000000 := by rw [← hXZ]; simp; omega
  have hcat1 : ∀ W : World, (Op.stringOp .add (BT E.chan) ⟨#[58]⟩).run Tryz.prog W = .ok (.string (BT X)) W := fun W => by
    rw [← hX]; exact cat_run (a := E.chan) (b := [58]) (by simp; omega) W
  obtain ⟨I, hI⟩ : ∃ I, BT (Lib.itoa E.side) = I := ⟨_, rfl⟩
  have hcat2 : ∀ W : World, (Op.stringOp .add (BT X) I).run Tryz.prog W = .ok (.string (BT Z)) W := fun W => by
    rw [← hI, ← hXZ]; exact cat_run (by omega) W
  simp only [hI] at HI
  have HN := fun w (h : Laid w) => Lib.hid (end_any (l := Z) hZl h)
  have ht : tellF .place E = if (endL Z).isSome then some Z else none := by rw [← hZ]; rfl
  rw [ht]
  obtain ⟨XB, hXB⟩ : ∃ XB, BT X = XB := ⟨_, rfl⟩
  obtain ⟨ZB, hZB⟩ : ∃ ZB, BT Z = ZB := ⟨_, rfl⟩
  simp only [hXB] at hcat1 hcat2
  simp only [hZB] at hcat2 HN
  have HZB := Lib.hid hZB
  clear hw hE ht hXZ hXl hZl hX hZ hcl hsl hI hXB hZB
  cases he : endL Z with
  | none =>
    simp only [endA_none he] at HN
    rw [if_neg (by decide)]
    clear he
    go_enter Tryz.func98, Tryz.ntmps98
    go_upto_region 1 with (fail)
    refine held_begin (fun u => EvAt u B E) (by kernel_rfl) ?_
    generalize hwd : World.drew w = wd
    have VD : Hid (Turn Nn w wd) := Lib.hid (by rw [← hwd]; exact (Turn.refl Nn w).drew)
    have ED : Hid (EvAt wd B E) := Lib.hid (by rw [← hwd]; exact HE.out)
    clear hwd
    refine held_take 0 ?_ rfl (by kernel_rfl) (by kernel_rfl) (by kernel_rfl) (fun _ _ _ h => h) (Or.inl ⟨by kernel_rfl, ?_⟩) ED.out ?_
    rotate_left 1
    · intro u hu; obtain ⟨y0, y1, y2, y3, y4, y5, y6, y7, y8⟩ := evCells hu; go_simp; first | done | with_reducible rfl
    try simp only [Act.put, nA, nB, nC, nD, nE, nF]
    refine held_take 1 ?_ rfl (by kernel_rfl) (by kernel_rfl) (by kernel_rfl) (fun _ _ _ h => h) (Or.inl ⟨by kernel_rfl, ?_⟩) ED.out ?_
    rotate_left 1
    · intro u hu; obtain ⟨y0, y1, y2, y3, y4, y5, y6, y7, y8⟩ := evCells hu; go_simp; first | done | with_reducible rfl
    try simp only [Act.put, nA, nB, nC, nD, nE, nF]
    refine held_take 2 ?_ rfl (by kernel_rfl) (by kernel_rfl) (by kernel_rfl) (fun _ _ _ h => h) (Or.inl ⟨by kernel_rfl, ?_⟩) ED.out ?_
    rotate_left 1
    · intro u hu; obtain ⟨y0, y1, y2, y3, y4, y5, y6, y7, y8⟩ := evCells hu; go_simp; first | done | with_reducible rfl
    try simp only [Act.put, nA, nB, nC, nD, nE, nF]
    refine held_take 3 ?_ rfl (by kernel_rfl) (by kernel_rfl) (by kernel_rfl) (fun _ _ _ h => h) (Or.inl ⟨by kernel_rfl, ?_⟩) ED.out ?_
    rotate_left 1
    · intro u hu; obtain ⟨y0, y1, y2, y3, y4, y5, y6, y7, y8⟩ := evCells hu; go_simp; first | done | with_reducible rfl
    try simp only [Act.put, nA, nB, nC, nD, nE, nF]
    refine held_take 4 ?_ rfl (by kernel_rfl) (by kernel_rfl) (by kernel_rfl) (fun _ _ _ h => h) (Or.inl ⟨by kernel_rfl, ?_⟩) ED.out ?_
    rotate_left 1
    · intro u hu; obtain ⟨y0, y1, y2, y3, y4, y5, y6, y7, y8⟩ := evCells hu; go_simp; first | done | with_reducible rfl
    try simp only [Act.put, nA, nB, nC, nD, nE, nF]
    refine held_take 5 ?_ rfl (by kernel_rfl) (by kernel_rfl) (by kernel_rfl) (fun _ _ _ h => h) (Or.inl ⟨by kernel_rfl, ?_⟩) ED.out ?_
    rotate_left 1
    · intro u hu; obtain ⟨y0, y1, y2, y3, y4, y5, y6, y7, y8⟩ := evCells hu; go_simp; first | done | with_reducible rfl
    try simp only [Act.put, nA, nB, nC, nD, nE, nF]
    refine held_take 6 ?_ rfl (by kernel_rfl) (by kernel_rfl) (by kernel_rfl) (fun _ _ _ h => h) (Or.inl ⟨by kernel_rfl, ?_⟩) ED.out ?_
    rotate_left 1
    · intro u hu; obtain ⟨y0, y1, y2, y3, y4, y5, y6, y7, y8⟩ := evCells hu; go_simp; first | done | with_reducible rfl
    try simp only [Act.put, nA, nB, nC, nD, nE, nF]
    refine held_take 7 ?_ rfl (by kernel_rfl) (by kernel_rfl) (by kernel_rfl) (fun _ _ _ h => h) (Or.inl ⟨by kernel_rfl, ?_⟩) ED.out ?_
    rotate_left 1
    · intro u hu; obtain ⟨y0, y1, y2, y3, y4, y5, y6, y7, y8⟩ := evCells hu; go_simp; first | done | with_reducible rfl
    try simp only [Act.put, nA, nB, nC, nD, nE, nF]
    refine held_take 8 ?_ rfl (by kernel_rfl) (by kernel_rfl) (by kernel_rfl) (fun _ _ _ h => h) (Or.inl ⟨by kernel_rfl, ?_⟩) ED.out ?_
    rotate_left 1
    · intro u hu; obtain ⟨y0, y1, y2, y3, y4, y5, y6, y7, y8⟩ := evCells hu; go_simp; first | done | with_reducible rfl
    try simp only [Act.put, nA, nB, nC, nD, nE, nF]
    refine held_one 9 (by kernel_rfl) rfl (by kernel_rfl) (fun K hK => ?_)
    go_simp
    refine ((HI _ (HW.out.turn VD.out)).out).mono ?_
    rintro e w1 ⟨rfl, t1⟩
    have V1 := Lib.hid (VD.out.trans t1)
    have E1 := Lib.hid (ED.out.turn t1)
    clear t1
    refine hK _ _ E1.out ?_
    clear hK K
    try simp only [Act.put, nA, nB, nC, nD, nE, nF]
    refine held_take 10 ?_ rfl (by kernel_rfl) (by kernel_rfl) (by kernel_rfl) (fun _ _ _ h => h) (Or.inl ⟨by kernel_rfl, ?_⟩) E1.out ?_
    rotate_left 1
    · intro u hu; obtain ⟨y0, y1, y2, y3, y4, y5, y6, y7, y8⟩ := evCells hu; go_simp; first | done | with_reducible rfl
    try simp only [Act.put, nA, nB, nC, nD, nE, nF]
    refine held_take 11 ?_ rfl (by kernel_rfl) (by kernel_rfl) (by kernel_rfl) (fun _ _ _ h => h) (Or.inl ⟨by kernel_rfl, ?_⟩) E1.out ?_
    rotate_left 1
    · intro u hu; obtain ⟨y0, y1, y2, y3, y4, y5, y6, y7, y8⟩ := evCells hu; go_simp; first | done | with_reducible rfl
    try simp only [Act.put, nA, nB, nC, nD, nE, nF]
    refine wpAnyH_done (by kernel_rfl) ?_ _
    go_wp2_with fail
    refine (HN _ (HW.out.turn V1.out)).out.mono ?_
    rintro e w3 ⟨rfl, t3⟩
    have V3 := Lib.hid (V1.out.trans t3)
    clear t3
    go_wp2_with fail
    refine (need_no _).mono ?_
    rintro e wn ⟨rfl, rfl⟩
    exact ⟨rfl, rfl, V3.out⟩
  | some p =>
    obtain ⟨c, n⟩ := p
    simp only [endA_some he] at HN
    rw [if_pos (show (some (c, n)).isSome = true from rfl)]
    clear he
    go_enter Tryz.func98, Tryz.ntmps98
    go_upto_region 1 with (fail)
    refine held_begin (fun u => EvAt u B E) (by kernel_rfl) ?_
    generalize hwd : World.drew w = wd
    have VD : Hid (Turn Nn w wd) := Lib.hid (by rw [← hwd]; exact (Turn.refl Nn w).drew)
    have ED : Hid (EvAt wd B E) := Lib.hid (by rw [← hwd]; exact HE.out)
    clear hwd
    refine held_take 0 ?_ rfl (by kernel_rfl) (by kernel_rfl) (by kernel_rfl) (fun _ _ _ h => h) (Or.inl ⟨by kernel_rfl, ?_⟩) ED.out ?_
    rotate_left 1
    · intro u hu; obtain ⟨y0, y1, y2, y3, y4, y5, y6, y7, y8⟩ := evCells hu; go_simp; first | done | with_reducible rfl
    try simp only [Act.put, nA, nB, nC, nD, nE, nF]
    refine held_take 1 ?_ rfl (by kernel_rfl) (by kernel_rfl) (by kernel_rfl) (fun _ _ _ h => h) (Or.inl ⟨by kernel_rfl, ?_⟩) ED.out ?_
    rotate_left 1
    · intro u hu; obtain ⟨y0, y1, y2, y3, y4, y5, y6, y7, y8⟩ := evCells hu; go_simp; first | done | with_reducible rfl
    try simp only [Act.put, nA, nB, nC, nD, nE, nF]
    refine held_take 2 ?_ rfl (by kernel_rfl) (by kernel_rfl) (by kernel_rfl) (fun _ _ _ h => h) (Or.inl ⟨by kernel_rfl, ?_⟩) ED.out ?_
    rotate_left 1
    · intro u hu; obtain ⟨y0, y1, y2, y3, y4, y5, y6, y7, y8⟩ := evCells hu; go_simp; first | done | with_reducible rfl
    try simp only [Act.put, nA, nB, nC, nD, nE, nF]
    refine held_take 3 ?_ rfl (by kernel_rfl) (by kernel_rfl) (by kernel_rfl) (fun _ _ _ h => h) (Or.inl ⟨by kernel_rfl, ?_⟩) ED.out ?_
    rotate_left 1
    · intro u hu; obtain ⟨y0, y1, y2, y3, y4, y5, y6, y7, y8⟩ := evCells hu; go_simp; first | done | with_reducible rfl
    try simp only [Act.put, nA, nB, nC, nD, nE, nF]
    refine held_take 4 ?_ rfl (by kernel_rfl) (by kernel_rfl) (by kernel_rfl) (fun _ _ _ h => h) (Or.inl ⟨by kernel_rfl, ?_⟩) ED.out ?_
    rotate_left 1
    · intro u hu; obtain ⟨y0, y1, y2, y3, y4, y5, y6, y7, y8⟩ := evCells hu; go_simp; first | done | with_reducible rfl
    try simp only [Act.put, nA, nB, nC, nD, nE, nF]
    refine held_take 5 ?_ rfl (by kernel_rfl) (by kernel_rfl) (by kernel_rfl) (fun _ _ _ h => h) (Or.inl ⟨by kernel_rfl, ?_⟩) ED.out ?_
    rotate_left 1
    · intro u hu; obtain ⟨y0, y1, y2, y3, y4, y5, y6, y7, y8⟩ := evCells hu; go_simp; first | done | with_reducible rfl
    try simp only [Act.put, nA, nB, nC, nD, nE, nF]
    refine held_take 6 ?_ rfl (by kernel_rfl) (by kernel_rfl) (by kernel_rfl) (fun _ _ _ h => h) (Or.inl ⟨by kernel_rfl, ?_⟩) ED.out ?_
    rotate_left 1
    · intro u hu; obtain ⟨y0, y1, y2, y3, y4, y5, y6, y7, y8⟩ := evCells hu; go_simp; first | done | with_reducible rfl
    try simp only [Act.put, nA, nB, nC, nD, nE, nF]
    refine held_take 7 ?_ rfl (by kernel_rfl) (by kernel_rfl) (by kernel_rfl) (fun _ _ _ h => h) (Or.inl ⟨by kernel_rfl, ?_⟩) ED.out ?_
    rotate_left 1
    · intro u hu; obtain ⟨y0, y1, y2, y3, y4, y5, y6, y7, y8⟩ := evCells hu; go_simp; first | done | with_reducible rfl
    try simp only [Act.put, nA, nB, nC, nD, nE, nF]
    refine held_take 8 ?_ rfl (by kernel_rfl) (by kernel_rfl) (by kernel_rfl) (fun _ _ _ h => h) (Or.inl ⟨by kernel_rfl, ?_⟩) ED.out ?_
    rotate_left 1
    · intro u hu; obtain ⟨y0, y1, y2, y3, y4, y5, y6, y7, y8⟩ := evCells hu; go_simp; first | done | with_reducible rfl
    try simp only [Act.put, nA, nB, nC, nD, nE, nF]
    refine held_one 9 (by kernel_rfl) rfl (by kernel_rfl) (fun K hK => ?_)
    go_simp
    refine ((HI _ (HW.out.turn VD.out)).out).mono ?_
    rintro e w1 ⟨rfl, t1⟩
    have V1 := Lib.hid (VD.out.trans t1)
    have E1 := Lib.hid (ED.out.turn t1)
    clear t1
    refine hK _ _ E1.out ?_
    clear hK K
    try simp only [Act.put, nA, nB, nC, nD, nE, nF]
    refine held_take 10 ?_ rfl (by kernel_rfl) (by kernel_rfl) (by kernel_rfl) (fun _ _ _ h => h) (Or.inl ⟨by kernel_rfl, ?_⟩) E1.out ?_
    rotate_left 1
    · intro u hu; obtain ⟨y0, y1, y2, y3, y4, y5, y6, y7, y8⟩ := evCells hu; go_simp; first | done | with_reducible rfl
    try simp only [Act.put, nA, nB, nC, nD, nE, nF]
    refine held_take 11 ?_ rfl (by kernel_rfl) (by kernel_rfl) (by kernel_rfl) (fun _ _ _ h => h) (Or.inl ⟨by kernel_rfl, ?_⟩) E1.out ?_
    rotate_left 1
    · intro u hu; obtain ⟨y0, y1, y2, y3, y4, y5, y6, y7, y8⟩ := evCells hu; go_simp; first | done | with_reducible rfl
    try simp only [Act.put, nA, nB, nC, nD, nE, nF]
    refine wpAnyH_done (by kernel_rfl) ?_ _
    go_wp2_with fail
    refine (HN _ (HW.out.turn V1.out)).out.mono ?_
    rintro e w3 ⟨rfl, t3⟩
    have V3 := Lib.hid (V1.out.trans t3)
    clear t3
    go_wp2_with fail
    refine (need_yes _).mono ?_
    rintro e wn ⟨rfl, rfl⟩
    go_wp2_with fail
    go_ret
    exact ⟨by rw [← HZB.out]; rfl, V3.out⟩
/-- The function that a field's closure captures. -/
abbrev BoxAt (w : World) (b g : Nat) (t : TypeId) : Prop := w.heap[b]? = some (.cells #[.func (.func g) #[] #[]] t)
theorem BoxAt.turn {w w' : World} {b g : Nat} {t : TypeId} (h : BoxAt w b g t) (k : Turn Nn w w') : BoxAt w' b g t := (k.block b (heap_lt h) (fun h => h)).trans h
theorem BoxAt.cell {w : World} {b g : Nat} {t : TypeId} (h : BoxAt w b g t) : w.cell? ⟨b, 0, none⟩ = some (.func (.func g) #[] #[]) := cell_blk h
set_option maxRecDepth 100000 in
set_option maxHeartbeats 8000000 in
theorem told_label {E : EventD} (hs : ESmall E) {B b : Nat} {w : World} (hE : EvAt w B E) (hb : BoxAt w b 100 120) (hw : Laid w) : Calls Tryz.prog 101 #[.pointer (some ⟨B, 0, none⟩), .pointer (some ⟨b, 0, none⟩)] w (TellP w (tellF .label E)) := by
  have HW := Lib.hid hw
  have HE := Lib.hid hE
  have HB := Lib.hid hb
  have HF := fun w (h : Laid w) => Lib.hid (format_any hs.ints.word h)
  have ht : tellF .label E = if 0 ≤ E.word ∧ E.word < 8 then some (Lib.itoa E.word) else none := rfl
  rw [ht]
  have HM := fun w => Lib.hid (most_any (n := E.word) (w := w))
  clear hw hE ht hb
  by_cases h8 : 0 ≤ E.word ∧ E.word < 8
  · rw [if_pos h8]
    simp only [if_pos h8] at HM
    clear h8
    go_enter Tryz.func101, Tryz.ntmps101
    go_upto_region 1 with (fail)
    refine held_begin (fun u => EvAt u B E ∧ BoxAt u b 100 120) (by kernel_rfl) ?_
    generalize hwd : World.drew w = wd
    have VD : Hid (Turn Nn w wd) := Lib.hid (by rw [← hwd]; exact (Turn.refl Nn w).drew)
    have SD : Hid (EvAt wd B E ∧ BoxAt wd b 100 120) := Lib.hid (by rw [← hwd]; exact ⟨HE.out, HB.out⟩)
    clear hwd
    refine held_take 0 ?_ rfl (by kernel_rfl) (by kernel_rfl) (by kernel_rfl) (fun _ _ _ h => h) (Or.inl ⟨by kernel_rfl, ?_⟩) SD.out ?_
    rotate_left 1
    · intro u hu; obtain ⟨hu1, hu2⟩ := hu; obtain ⟨y0, y1, y2, y3, y4, y5, y6, y7, y8⟩ := evCells hu1; have yb := BoxAt.cell hu2; go_simp; first | done | with_reducible rfl
    try simp only [Act.put, nA, nB, nC, nD, nE, nF]
    refine held_take 1 ?_ rfl (by kernel_rfl) (by kernel_rfl) (by kernel_rfl) (fun _ _ _ h => h) (Or.inl ⟨by kernel_rfl, ?_⟩) SD.out ?_
    rotate_left 1
    · intro u hu; obtain ⟨hu1, hu2⟩ := hu; obtain ⟨y0, y1, y2, y3, y4, y5, y6, y7, y8⟩ := evCells hu1; have yb := BoxAt.cell hu2; go_simp; first | done | with_reducible rfl
    try simp only [Act.put, nA, nB, nC, nD, nE, nF]
    refine held_take 2 ?_ rfl (by kernel_rfl) (by kernel_rfl) (by kernel_rfl) (fun _ _ _ h => h) (Or.inl ⟨by kernel_rfl, ?_⟩) SD.out ?_
    rotate_left 1
    · intro u hu; obtain ⟨hu1, hu2⟩ := hu; obtain ⟨y0, y1, y2, y3, y4, y5, y6, y7, y8⟩ := evCells hu1; have yb := BoxAt.cell hu2; go_simp; first | done | with_reducible rfl
    try simp only [Act.put, nA, nB, nC, nD, nE, nF]
    refine held_take 3 ?_ rfl (by kernel_rfl) (by kernel_rfl) (by kernel_rfl) (fun _ _ _ h => h) (Or.inl ⟨by kernel_rfl, ?_⟩) SD.out ?_
    rotate_left 1
    · intro u hu; obtain ⟨hu1, hu2⟩ := hu; obtain ⟨y0, y1, y2, y3, y4, y5, y6, y7, y8⟩ := evCells hu1; have yb := BoxAt.cell hu2; go_simp; first | done | with_reducible rfl
    try simp only [Act.put, nA, nB, nC, nD, nE, nF]
    refine held_take 4 ?_ rfl (by kernel_rfl) (by kernel_rfl) (by kernel_rfl) (fun _ _ _ h => h) (Or.inl ⟨by kernel_rfl, ?_⟩) SD.out ?_
    rotate_left 1
    · intro u hu; obtain ⟨hu1, hu2⟩ := hu; obtain ⟨y0, y1, y2, y3, y4, y5, y6, y7, y8⟩ := evCells hu1; have yb := BoxAt.cell hu2; go_simp; first | done | with_reducible rfl
    try simp only [Act.put, nA, nB, nC, nD, nE, nF]
    refine held_one 5 (by kernel_rfl) rfl (by kernel_rfl) (fun K hK => ?_)
    go_simp
    refine (HM _).out.mono ?_
    rintro e wn ⟨rfl, rfl⟩
    refine hK _ _ SD.out ?_
    clear hK K
    try simp only [Act.put, nA, nB, nC, nD, nE, nF]
    refine wpAnyH_done (by kernel_rfl) ?_ _
    obtain ⟨y0, y1, y2, y3, y4, y5, y6, y7, y8⟩ := evCells SD.out.1
    clear y0 y1 y2 y3 y4 y5 y6 y8
    go_wp2_with fail
    refine (HF _ (HW.out.turn VD.out)).out.mono ?_
    rintro e w3 ⟨rfl, t3⟩
    have V3 := Lib.hid (VD.out.trans t3)
    clear t3
    go_wp2_with fail
    go_ret
    exact ⟨rfl, V3.out⟩
  · rw [if_neg h8]
    simp only [if_neg h8] at HM
    clear h8
    go_enter Tryz.func101, Tryz.ntmps101
    go_upto_region 1 with (fail)
    refine held_begin (fun u => EvAt u B E ∧ BoxAt u b 100 120) (by kernel_rfl) ?_
    generalize hwd : World.drew w = wd
    have VD : Hid (Turn Nn w wd) := Lib.hid (by rw [← hwd]; exact (Turn.refl Nn w).drew)
    have SD : Hid (EvAt wd B E ∧ BoxAt wd b 100 120) := Lib.hid (by rw [← hwd]; exact ⟨HE.out, HB.out⟩)
    clear hwd
    refine held_take 0 ?_ rfl (by kernel_rfl) (by kernel_rfl) (by kernel_rfl) (fun _ _ _ h => h) (Or.inl ⟨by kernel_rfl, ?_⟩) SD.out ?_
    rotate_left 1
    · intro u hu; obtain ⟨hu1, hu2⟩ := hu; obtain ⟨y0, y1, y2, y3, y4, y5, y6, y7, y8⟩ := evCells hu1; have yb := BoxAt.cell hu2; go_simp; first | done | with_reducible rfl
    try simp only [Act.put, nA, nB, nC, nD, nE, nF]
    refine held_take 1 ?_ rfl (by kernel_rfl) (by kernel_rfl) (by kernel_rfl) (fun _ _ _ h => h) (Or.inl ⟨by kernel_rfl, ?_⟩) SD.out ?_
    rotate_left 1
    · intro u hu; obtain ⟨hu1, hu2⟩ := hu; obtain ⟨y0, y1, y2, y3, y4, y5, y6, y7, y8⟩ := evCells hu1; have yb := BoxAt.cell hu2; go_simp; first | done | with_reducible rfl
    try simp only [Act.put, nA, nB, nC, nD, nE, nF]
    refine held_take 2 ?_ rfl (by kernel_rfl) (by kernel_rfl) (by kernel_rfl) (fun _ _ _ h => h) (Or.inl ⟨by kernel_rfl, ?_⟩) SD.out ?_
    rotate_left 1
    · intro u hu; obtain ⟨hu1, hu2⟩ := hu; obtain ⟨y0, y1, y2, y3, y4, y5, y6, y7, y8⟩ := evCells hu1; have yb := BoxAt.cell hu2; go_simp; first | done | with_reducible rfl
    try simp only [Act.put, nA, nB, nC, nD, nE, nF]
    refine held_take 3 ?_ rfl (by kernel_rfl) (by kernel_rfl) (by kernel_rfl) (fun _ _ _ h => h) (Or.inl ⟨by kernel_rfl, ?_⟩) SD.out ?_
    rotate_left 1
    · intro u hu; obtain ⟨hu1, hu2⟩ := hu; obtain ⟨y0, y1, y2, y3, y4, y5, y6, y7, y8⟩ := evCells hu1; have yb := BoxAt.cell hu2; go_simp; first | done | with_reducible rfl
    try simp only [Act.put, nA, nB, nC, nD, nE, nF]
    refine held_take 4 ?_ rfl (by kernel_rfl) (by kernel_rfl) (by kernel_rfl) (fun _ _ _ h => h) (Or.inl ⟨by kernel_rfl, ?_⟩) SD.out ?_
    rotate_left 1
    · intro u hu; obtain ⟨hu1, hu2⟩ := hu; obtain ⟨y0, y1, y2, y3, y4, y5, y6, y7, y8⟩ := evCells hu1; have yb := BoxAt.cell hu2; go_simp; first | done | with_reducible rfl
    try simp only [Act.put, nA, nB, nC, nD, nE, nF]
    refine held_one 5 (by kernel_rfl) rfl (by kernel_rfl) (fun K hK => ?_)
    go_simp
    refine (HM _).out.mono ?_
    rintro e wn ⟨rfl, rfl⟩
    exact ⟨rfl, rfl, VD.out⟩
set_option maxRecDepth 100000 in
set_option maxHeartbeats 8000000 in
theorem told_handed {E : EventD} (hs : ESmall E) {B b : Nat} {w : World} (hE : EvAt w B E) (hb : BoxAt w b 103 29) (hw : Laid w) : Calls Tryz.prog 104 #[.pointer (some ⟨B, 0, none⟩), .pointer (some ⟨b, 0, none⟩)] w (TellP w (tellF .handed E)) := by
  have HW := Lib.hid hw
  have HE := Lib.hid hE
  have HB := Lib.hid hb
  have hnl := hs.name
  have HM := fun w (h : Laid w) => Lib.hid (right_any (l := E.name) (by omega) h)
  have ht : tellF .handed E = if (endL E.name).isSome then some E.name else none := rfl
  rw [ht]
  clear hw hE ht hb hnl
  by_cases h8 : (endL E.name).isSome = true
  · rw [if_pos h8]
    simp only [if_pos h8] at HM
    clear h8
    go_enter Tryz.func104, Tryz.ntmps104
    go_upto_region 1 with (fail)
    refine held_begin (fun u => EvAt u B E ∧ BoxAt u b 103 29) (by kernel_rfl) ?_
    generalize hwd : World.drew w = wd
    have VD : Hid (Turn Nn w wd) := Lib.hid (by rw [← hwd]; exact (Turn.refl Nn w).drew)
    have SD : Hid (EvAt wd B E ∧ BoxAt wd b 103 29) := Lib.hid (by rw [← hwd]; exact ⟨HE.out, HB.out⟩)
    clear hwd
    refine held_take 0 ?_ rfl (by kernel_rfl) (by kernel_rfl) (by kernel_rfl) (fun _ _ _ h => h) (Or.inl ⟨by kernel_rfl, ?_⟩) SD.out ?_
    rotate_left 1
    · intro u hu; obtain ⟨hu1, hu2⟩ := hu; obtain ⟨y0, y1, y2, y3, y4, y5, y6, y7, y8⟩ := evCells hu1; have yb := BoxAt.cell hu2; go_simp; first | done | with_reducible rfl
    try simp only [Act.put, nA, nB, nC, nD, nE, nF]
    refine held_take 1 ?_ rfl (by kernel_rfl) (by kernel_rfl) (by kernel_rfl) (fun _ _ _ h => h) (Or.inl ⟨by kernel_rfl, ?_⟩) SD.out ?_
    rotate_left 1
    · intro u hu; obtain ⟨hu1, hu2⟩ := hu; obtain ⟨y0, y1, y2, y3, y4, y5, y6, y7, y8⟩ := evCells hu1; have yb := BoxAt.cell hu2; go_simp; first | done | with_reducible rfl
    try simp only [Act.put, nA, nB, nC, nD, nE, nF]
    refine held_take 2 ?_ rfl (by kernel_rfl) (by kernel_rfl) (by kernel_rfl) (fun _ _ _ h => h) (Or.inl ⟨by kernel_rfl, ?_⟩) SD.out ?_
    rotate_left 1
    · intro u hu; obtain ⟨hu1, hu2⟩ := hu; obtain ⟨y0, y1, y2, y3, y4, y5, y6, y7, y8⟩ := evCells hu1; have yb := BoxAt.cell hu2; go_simp; first | done | with_reducible rfl
    try simp only [Act.put, nA, nB, nC, nD, nE, nF]
    refine held_take 3 ?_ rfl (by kernel_rfl) (by kernel_rfl) (by kernel_rfl) (fun _ _ _ h => h) (Or.inl ⟨by kernel_rfl, ?_⟩) SD.out ?_
    rotate_left 1
    · intro u hu; obtain ⟨hu1, hu2⟩ := hu; obtain ⟨y0, y1, y2, y3, y4, y5, y6, y7, y8⟩ := evCells hu1; have yb := BoxAt.cell hu2; go_simp; first | done | with_reducible rfl
    try simp only [Act.put, nA, nB, nC, nD, nE, nF]
    refine held_take 4 ?_ rfl (by kernel_rfl) (by kernel_rfl) (by kernel_rfl) (fun _ _ _ h => h) (Or.inl ⟨by kernel_rfl, ?_⟩) SD.out ?_
    rotate_left 1
    · intro u hu; obtain ⟨hu1, hu2⟩ := hu; obtain ⟨y0, y1, y2, y3, y4, y5, y6, y7, y8⟩ := evCells hu1; have yb := BoxAt.cell hu2; go_simp; first | done | with_reducible rfl
    try simp only [Act.put, nA, nB, nC, nD, nE, nF]
    refine held_one 5 (by kernel_rfl) rfl (by kernel_rfl) (fun K hK => ?_)
    go_simp
    refine (HM _ (HW.out.turn VD.out)).out.mono ?_
    rintro e w1 ⟨rfl, t1⟩
    have V1 := Lib.hid (VD.out.trans t1)
    have S1 : Hid (EvAt w1 B E ∧ BoxAt w1 b 103 29) := Lib.hid ⟨SD.out.1.turn t1, SD.out.2.turn t1⟩
    clear t1
    refine hK _ _ S1.out ?_
    clear hK K
    try simp only [Act.put, nA, nB, nC, nD, nE, nF]
    refine held_take 6 ?_ rfl (by kernel_rfl) (by kernel_rfl) (by kernel_rfl) (fun _ _ _ h => h) (Or.inl ⟨by kernel_rfl, ?_⟩) S1.out ?_
    rotate_left 1
    · intro u hu; obtain ⟨hu1, hu2⟩ := hu; obtain ⟨y0, y1, y2, y3, y4, y5, y6, y7, y8⟩ := evCells hu1; have yb := BoxAt.cell hu2; go_simp; first | done | with_reducible rfl
    try simp only [Act.put, nA, nB, nC, nD, nE, nF]
    refine wpAnyH_done (by kernel_rfl) ?_ _
    go_wp2_with fail
    go_ret
    exact ⟨rfl, V1.out⟩
  · rw [if_neg h8]
    simp only [if_neg h8] at HM
    clear h8
    go_enter Tryz.func104, Tryz.ntmps104
    go_upto_region 1 with (fail)
    refine held_begin (fun u => EvAt u B E ∧ BoxAt u b 103 29) (by kernel_rfl) ?_
    generalize hwd : World.drew w = wd
    have VD : Hid (Turn Nn w wd) := Lib.hid (by rw [← hwd]; exact (Turn.refl Nn w).drew)
    have SD : Hid (EvAt wd B E ∧ BoxAt wd b 103 29) := Lib.hid (by rw [← hwd]; exact ⟨HE.out, HB.out⟩)
    clear hwd
    refine held_take 0 ?_ rfl (by kernel_rfl) (by kernel_rfl) (by kernel_rfl) (fun _ _ _ h => h) (Or.inl ⟨by kernel_rfl, ?_⟩) SD.out ?_
    rotate_left 1
    · intro u hu; obtain ⟨hu1, hu2⟩ := hu; obtain ⟨y0, y1, y2, y3, y4, y5, y6, y7, y8⟩ := evCells hu1; have yb := BoxAt.cell hu2; go_simp; first | done | with_reducible rfl
    try simp only [Act.put, nA, nB, nC, nD, nE, nF]
    refine held_take 1 ?_ rfl (by kernel_rfl) (by kernel_rfl) (by kernel_rfl) (fun _ _ _ h => h) (Or.inl ⟨by kernel_rfl, ?_⟩) SD.out ?_
    rotate_left 1
    · intro u hu; obtain ⟨hu1, hu2⟩ := hu; obtain ⟨y0, y1, y2, y3, y4, y5, y6, y7, y8⟩ := evCells hu1; have yb := BoxAt.cell hu2; go_simp; first | done | with_reducible rfl
    try simp only [Act.put, nA, nB, nC, nD, nE, nF]
    refine held_take 2 ?_ rfl (by kernel_rfl) (by kernel_rfl) (by kernel_rfl) (fun _ _ _ h => h) (Or.inl ⟨by kernel_rfl, ?_⟩) SD.out ?_
    rotate_left 1
    · intro u hu; obtain ⟨hu1, hu2⟩ := hu; obtain ⟨y0, y1, y2, y3, y4, y5, y6, y7, y8⟩ := evCells hu1; have yb := BoxAt.cell hu2; go_simp; first | done | with_reducible rfl
    try simp only [Act.put, nA, nB, nC, nD, nE, nF]
    refine held_take 3 ?_ rfl (by kernel_rfl) (by kernel_rfl) (by kernel_rfl) (fun _ _ _ h => h) (Or.inl ⟨by kernel_rfl, ?_⟩) SD.out ?_
    rotate_left 1
    · intro u hu; obtain ⟨hu1, hu2⟩ := hu; obtain ⟨y0, y1, y2, y3, y4, y5, y6, y7, y8⟩ := evCells hu1; have yb := BoxAt.cell hu2; go_simp; first | done | with_reducible rfl
    try simp only [Act.put, nA, nB, nC, nD, nE, nF]
    refine held_take 4 ?_ rfl (by kernel_rfl) (by kernel_rfl) (by kernel_rfl) (fun _ _ _ h => h) (Or.inl ⟨by kernel_rfl, ?_⟩) SD.out ?_
    rotate_left 1
    · intro u hu; obtain ⟨hu1, hu2⟩ := hu; obtain ⟨y0, y1, y2, y3, y4, y5, y6, y7, y8⟩ := evCells hu1; have yb := BoxAt.cell hu2; go_simp; first | done | with_reducible rfl
    try simp only [Act.put, nA, nB, nC, nD, nE, nF]
    refine held_one 5 (by kernel_rfl) rfl (by kernel_rfl) (fun K hK => ?_)
    go_simp
    refine (HM _ (HW.out.turn VD.out)).out.mono ?_
    rintro e w1 ⟨rfl, t1⟩
    exact ⟨rfl, rfl, VD.out.trans t1⟩
end
section
open Go.RowKit Go.Shelf

def At1 (B : Nat) (k : Nat) : Prop := k = B
theorem Turn.at1 {w w' : World} (t : Turn Nn w w') (B : Nat) : Turn (At1 B) w w' := t.mono (fun _ h => h.elim)
theorem Turn.set1 {a w : World} {B : Nat} (t : Turn (At1 B) a w) (o : Nat) (u : Value) : Turn (At1 B) a (w.setCell ⟨B, o, none⟩ u) := t.setCell (p := ⟨B, o, none⟩) (.inl rfl) u
theorem Laid.at1 {w w' : World} {B : Nat} (h : Laid w) (t : Turn (At1 B) w w') (hB : 4 ≤ B) : Laid w' := by
  have key : ∀ {k : Nat} {v : Value}, k < 4 → w.cell? ⟨k, 0, none⟩ = some v → w'.cell? ⟨k, 0, none⟩ = some v := by
    intro k v hk hc
    have hl := World.block_lt_of_cell? w _ hc
    unfold World.cell? at hc ⊢
    rw [t.block k hl (fun e => by have : k = B := e; omega)]; exact hc
  refine ⟨h.mx.imp fun _ hm => key (by omega) hm, ?_, ?_, ?_⟩
  · have hp := h.pow
    have hg : Tryz.prog.globalNamed "internal/strconv.uint64pow10" = some 1 := by kernel_rfl
    unfold Lib.TabIs World.var? at hp ⊢
    rw [hg] at hp ⊢
    simp only [Option.bind_some] at hp ⊢
    cases hb : w.heap[1]? with
    | none => rw [hb] at hp; cases hp
    | some o =>
      rw [hb] at hp
      rw [t.block 1 (heap_lt hb) (fun e => by have : 1 = B := e; omega), hb]; exact hp
  · obtain ⟨a, b, c⟩ := h.syn; exact ⟨a, b, key (by omega) c⟩
  · obtain ⟨a, b, c⟩ := h.rng; exact ⟨a, b, key (by omega) c⟩
/-- What a field reads, or given up. -/
def ReadP (w : World) (B : Nat) (x : Option EventD) (e : Ending) (w' : World) : Prop :=
  (match x with
    | some E => e = .returned (.tuple #[]) ∧ EvAt w' B E
    | none => e = badE) ∧ Turn (At1 B) w w'
theorem EvAt.word {w : World} {B : Nat} {E : EventD} (h : EvAt w B E) (n : Int) : EvAt (w.setCell ⟨B, 7, none⟩ (.int .i64 n)) B { E with word := n } := heap_setCell_at h 7 _
theorem EvAt.chan {w : World} {B : Nat} {E : EventD} (h : EvAt w B E) (s : Bs) : EvAt (w.setCell ⟨B, 4, none⟩ (.string (BT s))) B { E with chan := s } := heap_setCell_at h 4 _
theorem EvAt.name {w : World} {B : Nat} {E : EventD} (h : EvAt w B E) (s : Bs) : EvAt (w.setCell ⟨B, 8, none⟩ (.string (BT s))) B { E with name := s } := heap_setCell_at h 8 _
theorem EvAt.side {w : World} {B : Nat} {E : EventD} (h : EvAt w B E) (n : Int) : EvAt (w.setCell ⟨B, 5, none⟩ (.int .i64 n)) B { E with side := n } := heap_setCell_at h 5 _
set_option maxRecDepth 100000 in
set_option maxHeartbeats 8000000 in
theorem read_word {E : EventD} {B : Nat} {w : World} {s : Bs} (hs : s.length ≤ 4000000) (hE : EvAt w B E) (hw : Laid w) : Calls Tryz.prog 93 #[.pointer (some ⟨B, 0, none⟩), .string (BT s)] w (ReadP w B (readF .word E s)) := by
  have HE := Lib.hid hE
  have HN := Lib.hid (whole_any hs hw)
  have ht : readF .word E s = (wholeL s).map fun n => { E with word := n } := rfl
  rw [ht]
  obtain ⟨S, hS⟩ : ∃ S, BT s = S := ⟨_, rfl⟩
  rw [hS] at HN ⊢
  clear hw hE ht hS
  cases hn : wholeL s with
  | none =>
    rw [hn] at HN
    clear hn
    go_enter Tryz.func93, Tryz.ntmps93
    go_wp2_with fail
    refine HN.out.mono ?_
    rintro e w2 ⟨he, t2⟩
    obtain rfl : e = badE := he
    exact ⟨rfl, rfl, t2.at1 B⟩
  | some n =>
    rw [hn] at HN
    clear hn
    go_enter Tryz.func93, Tryz.ntmps93
    go_wp2_with fail
    refine HN.out.mono ?_
    rintro e w2 ⟨he, t2⟩
    obtain rfl : e = .returned (.int .i64 n) := he
    have T2 := Lib.hid t2
    have E2 := Lib.hid (HE.out.turn t2)
    obtain ⟨y0, y1, y2, y3, y4, y5, y6, y7, y8⟩ := evCells E2.out
    have z7 := frozen_blk (o := 7) E2.out
    clear t2 y0 y1 y2 y3 y4 y5 y6 y8
    go_wp2_with fail
    go_end0
    exact ⟨⟨rfl, E2.out.word n⟩, (T2.out.at1 B).set1 _ _⟩
set_option maxRecDepth 100000 in
set_option maxHeartbeats 8000000 in
theorem read_label {E : EventD} {B b : Nat} {w : World} {s : Bs} (hs : s.length ≤ 4000000) (hE : EvAt w B E) (hb : BoxAt w b 100 120) (hne : b ≠ B) (hw : Laid w) : Calls Tryz.prog 102 #[.pointer (some ⟨B, 0, none⟩), .string (BT s), .pointer (some ⟨b, 0, none⟩)] w (ReadP w B (readF .label E s)) := by
  have HE := Lib.hid hE
  have HBX := Lib.hid hb
  have HN := Lib.hid (whole_any hs hw)
  obtain ⟨S, hS⟩ : ∃ S, BT s = S := ⟨_, rfl⟩
  rw [hS] at HN ⊢
  clear hw hE hS hb
  cases hn : wholeL s with
  | none =>
    have ht : readF .label E s = none := by simp only [readF]; rw [hn]
    rw [ht]
    rw [hn] at HN
    clear hn ht
    go_enter Tryz.func102, Tryz.ntmps102
    go_wp2_with fail
    refine HN.out.mono ?_
    rintro e w2 ⟨he, t2⟩
    obtain rfl : e = badE := he
    exact ⟨rfl, rfl, t2.at1 B⟩
  | some n =>
    have ht : readF .label E s = if 0 ≤ n ∧ n < 8 then some { E with word := n } else none := by simp only [readF]; rw [hn]
    rw [ht]
    rw [hn] at HN
    have HM := fun w => Lib.hid (most_any (n := n) (w := w))
    clear hn ht
    by_cases h8 : 0 ≤ n ∧ n < 8
    · rw [if_pos h8]
      simp only [if_pos h8] at HM
      clear h8
      go_enter Tryz.func102, Tryz.ntmps102
      go_wp2_with fail
      refine HN.out.mono ?_
      rintro e w2 ⟨he, t2⟩
      obtain rfl : e = .returned (.int .i64 n) := he
      have T2 := Lib.hid t2
      have E2 := Lib.hid (HE.out.turn t2)
      have B2 := Lib.hid (HBX.out.turn t2)
      obtain ⟨y0, y1, y2, y3, y4, y5, y6, y7, y8⟩ := evCells E2.out
      have z7 := frozen_blk (o := 7) E2.out
      clear t2 y0 y1 y2 y3 y4 y5 y6 y8
      go_upto_region 1 with (fail)
      generalize hws : World.setCell w2 _ _ = w3
      have E3 : Hid (EvAt w3 B { E with word := n }) := Lib.hid (by rw [← hws]; exact E2.out.word n)
      have B3 : Hid (BoxAt w3 b 100 120) := Lib.hid (by rw [← hws]; exact blk_set B2.out hne)
      have T3 : Hid (Turn (At1 B) w w3) := Lib.hid (by rw [← hws]; exact (T2.out.at1 B).set1 _ _)
      clear hws y7 z7
      refine held_begin (fun u => EvAt u B { E with word := n } ∧ BoxAt u b 100 120) (by kernel_rfl) ?_
      generalize hwd : World.drew w3 = wd
      have VD : Hid (Turn (At1 B) w wd) := Lib.hid (by rw [← hwd]; exact T3.out.drew)
      have SD : Hid (EvAt wd B { E with word := n } ∧ BoxAt wd b 100 120) := Lib.hid (by rw [← hwd]; exact ⟨E3.out, B3.out⟩)
      clear hwd
      refine held_take 0 ?_ rfl (by kernel_rfl) (by kernel_rfl) (by kernel_rfl) (fun _ _ _ h => h) (Or.inl ⟨by kernel_rfl, ?_⟩) SD.out ?_
      rotate_left 1
      · intro u hu; obtain ⟨hu1, hu2⟩ := hu; obtain ⟨y0, y1, y2, y3, y4, y5, y6, y7, y8⟩ := evCells hu1; have yb := BoxAt.cell hu2; go_simp; first | done | with_reducible rfl
      try simp only [Act.put, nA, nB, nC, nD, nE, nF]
      refine held_take 1 ?_ rfl (by kernel_rfl) (by kernel_rfl) (by kernel_rfl) (fun _ _ _ h => h) (Or.inl ⟨by kernel_rfl, ?_⟩) SD.out ?_
      rotate_left 1
      · intro u hu; obtain ⟨hu1, hu2⟩ := hu; obtain ⟨y0, y1, y2, y3, y4, y5, y6, y7, y8⟩ := evCells hu1; have yb := BoxAt.cell hu2; go_simp; first | done | with_reducible rfl
      try simp only [Act.put, nA, nB, nC, nD, nE, nF]
      refine held_take 2 ?_ rfl (by kernel_rfl) (by kernel_rfl) (by kernel_rfl) (fun _ _ _ h => h) (Or.inl ⟨by kernel_rfl, ?_⟩) SD.out ?_
      rotate_left 1
      · intro u hu; obtain ⟨hu1, hu2⟩ := hu; obtain ⟨y0, y1, y2, y3, y4, y5, y6, y7, y8⟩ := evCells hu1; have yb := BoxAt.cell hu2; go_simp; first | done | with_reducible rfl
      try simp only [Act.put, nA, nB, nC, nD, nE, nF]
      refine held_take 3 ?_ rfl (by kernel_rfl) (by kernel_rfl) (by kernel_rfl) (fun _ _ _ h => h) (Or.inl ⟨by kernel_rfl, ?_⟩) SD.out ?_
      rotate_left 1
      · intro u hu; obtain ⟨hu1, hu2⟩ := hu; obtain ⟨y0, y1, y2, y3, y4, y5, y6, y7, y8⟩ := evCells hu1; have yb := BoxAt.cell hu2; go_simp; first | done | with_reducible rfl
      try simp only [Act.put, nA, nB, nC, nD, nE, nF]
      refine held_take 4 ?_ rfl (by kernel_rfl) (by kernel_rfl) (by kernel_rfl) (fun _ _ _ h => h) (Or.inl ⟨by kernel_rfl, ?_⟩) SD.out ?_
      rotate_left 1
      · intro u hu; obtain ⟨hu1, hu2⟩ := hu; obtain ⟨y0, y1, y2, y3, y4, y5, y6, y7, y8⟩ := evCells hu1; have yb := BoxAt.cell hu2; go_simp; first | done | with_reducible rfl
      try simp only [Act.put, nA, nB, nC, nD, nE, nF]
      refine held_one 5 (by kernel_rfl) rfl (by kernel_rfl) (fun K hK => ?_)
      go_simp
      refine (HM _).out.mono ?_
      rintro e wn ⟨rfl, rfl⟩
      refine hK _ _ SD.out ?_
      clear hK K
      try simp only [Act.put, nA, nB, nC, nD, nE, nF]
      refine wpAnyH_done (by kernel_rfl) ?_ _
      go_wp2_with fail
      go_end0
      exact ⟨⟨rfl, SD.out.1⟩, VD.out⟩
    · rw [if_neg h8]
      simp only [if_neg h8] at HM
      clear h8
      go_enter Tryz.func102, Tryz.ntmps102
      go_wp2_with fail
      refine HN.out.mono ?_
      rintro e w2 ⟨he, t2⟩
      obtain rfl : e = .returned (.int .i64 n) := he
      have T2 := Lib.hid t2
      have E2 := Lib.hid (HE.out.turn t2)
      have B2 := Lib.hid (HBX.out.turn t2)
      obtain ⟨y0, y1, y2, y3, y4, y5, y6, y7, y8⟩ := evCells E2.out
      have z7 := frozen_blk (o := 7) E2.out
      clear t2 y0 y1 y2 y3 y4 y5 y6 y8
      go_upto_region 1 with (fail)
      generalize hws : World.setCell w2 _ _ = w3
      have E3 : Hid (EvAt w3 B { E with word := n }) := Lib.hid (by rw [← hws]; exact E2.out.word n)
      have B3 : Hid (BoxAt w3 b 100 120) := Lib.hid (by rw [← hws]; exact blk_set B2.out hne)
      have T3 : Hid (Turn (At1 B) w w3) := Lib.hid (by rw [← hws]; exact (T2.out.at1 B).set1 _ _)
      clear hws y7 z7
      refine held_begin (fun u => EvAt u B { E with word := n } ∧ BoxAt u b 100 120) (by kernel_rfl) ?_
      generalize hwd : World.drew w3 = wd
      have VD : Hid (Turn (At1 B) w wd) := Lib.hid (by rw [← hwd]; exact T3.out.drew)
      have SD : Hid (EvAt wd B { E with word := n } ∧ BoxAt wd b 100 120) := Lib.hid (by rw [← hwd]; exact ⟨E3.out, B3.out⟩)
      clear hwd
      refine held_take 0 ?_ rfl (by kernel_rfl) (by kernel_rfl) (by kernel_rfl) (fun _ _ _ h => h) (Or.inl ⟨by kernel_rfl, ?_⟩) SD.out ?_
      rotate_left 1
      · intro u hu; obtain ⟨hu1, hu2⟩ := hu; obtain ⟨y0, y1, y2, y3, y4, y5, y6, y7, y8⟩ := evCells hu1; have yb := BoxAt.cell hu2; go_simp; first | done | with_reducible rfl
      try simp only [Act.put, nA, nB, nC, nD, nE, nF]
      refine held_take 1 ?_ rfl (by kernel_rfl) (by kernel_rfl) (by kernel_rfl) (fun _ _ _ h => h) (Or.inl ⟨by kernel_rfl, ?_⟩) SD.out ?_
      rotate_left 1
      · intro u hu; obtain ⟨hu1, hu2⟩ := hu; obtain ⟨y0, y1, y2, y3, y4, y5, y6, y7, y8⟩ := evCells hu1; have yb := BoxAt.cell hu2; go_simp; first | done | with_reducible rfl
      try simp only [Act.put, nA, nB, nC, nD, nE, nF]
      refine held_take 2 ?_ rfl (by kernel_rfl) (by kernel_rfl) (by kernel_rfl) (fun _ _ _ h => h) (Or.inl ⟨by kernel_rfl, ?_⟩) SD.out ?_
      rotate_left 1
      · intro u hu; obtain ⟨hu1, hu2⟩ := hu; obtain ⟨y0, y1, y2, y3, y4, y5, y6, y7, y8⟩ := evCells hu1; have yb := BoxAt.cell hu2; go_simp; first | done | with_reducible rfl
      try simp only [Act.put, nA, nB, nC, nD, nE, nF]
      refine held_take 3 ?_ rfl (by kernel_rfl) (by kernel_rfl) (by kernel_rfl) (fun _ _ _ h => h) (Or.inl ⟨by kernel_rfl, ?_⟩) SD.out ?_
      rotate_left 1
      · intro u hu; obtain ⟨hu1, hu2⟩ := hu; obtain ⟨y0, y1, y2, y3, y4, y5, y6, y7, y8⟩ := evCells hu1; have yb := BoxAt.cell hu2; go_simp; first | done | with_reducible rfl
      try simp only [Act.put, nA, nB, nC, nD, nE, nF]
      refine held_take 4 ?_ rfl (by kernel_rfl) (by kernel_rfl) (by kernel_rfl) (fun _ _ _ h => h) (Or.inl ⟨by kernel_rfl, ?_⟩) SD.out ?_
      rotate_left 1
      · intro u hu; obtain ⟨hu1, hu2⟩ := hu; obtain ⟨y0, y1, y2, y3, y4, y5, y6, y7, y8⟩ := evCells hu1; have yb := BoxAt.cell hu2; go_simp; first | done | with_reducible rfl
      try simp only [Act.put, nA, nB, nC, nD, nE, nF]
      refine held_one 5 (by kernel_rfl) rfl (by kernel_rfl) (fun K hK => ?_)
      go_simp
      refine (HM _).out.mono ?_
      rintro e wn ⟨rfl, rfl⟩
      exact ⟨rfl, rfl, VD.out⟩
set_option maxRecDepth 100000 in
set_option maxHeartbeats 8000000 in
theorem read_made {E : EventD} {B : Nat} {w : World} {s : Bs} (hs : s.length ≤ 4000000) (hE : EvAt w B E) (hB : 4 ≤ B) (hw : Laid w) : Calls Tryz.prog 95 #[.pointer (some ⟨B, 0, none⟩), .string (BT s)] w (ReadP w B (readF .made E s)) := by
  have HW := Lib.hid hw
  have HE := Lib.hid hE
  have HC := fun w (h : Laid w) => Lib.hid (chan_any hs h)
  have HP := fun w (h : Laid w) => Lib.hid (parent_any hs h)
  have ht : readF .made E s = if chanL s = true ∧ parentL s = E.actor then some { E with chan := s } else none := rfl
  rw [ht]
  have hq : ((BT (parentL s)).toList == (BT E.actor).toList) = decide (parentL s = E.actor) := by
    rw [BT_toList, BT_toList, Bool.eq_iff_iff, beq_iff_eq, decide_eq_true_eq]
  obtain ⟨y0, y1, y2, y3, y4, y5, y6, y7, y8⟩ := evCells HE.out
  have z7 := frozen_blk (o := 4) HE.out
  clear hw hE ht
  obtain ⟨c, hc⟩ : ∃ c, chanL s = c := ⟨_, rfl⟩
  obtain ⟨P, hP⟩ : ∃ P, BT (parentL s) = P := ⟨_, rfl⟩
  simp only [hc] at HC ⊢
  simp only [hP] at HP hq
  cases c with
  | false =>
    rw [if_neg (by rintro ⟨h, _⟩; cases h)]
    clear hc hP hq HP
    go_enter Tryz.func95, Tryz.ntmps95
    go_upto_region 1 with (fail)
    generalize hws : World.setCell w _ _ = w3
    have E3 : Hid (EvAt w3 B { E with chan := s }) := Lib.hid (by rw [← hws]; exact HE.out.chan s)
    have T3 : Hid (Turn (At1 B) w w3) := Lib.hid (by rw [← hws]; exact ((Turn.refl Nn w).at1 B).set1 _ _)
    clear hws y0 y1 y2 y3 y4 y5 y6 y7 y8 z7
    refine held_begin (fun u => EvAt u B { E with chan := s }) (by kernel_rfl) ?_
    generalize hwd : World.drew w3 = wd
    have VD : Hid (Turn (At1 B) w wd) := Lib.hid (by rw [← hwd]; exact T3.out.drew)
    have ED : Hid (EvAt wd B { E with chan := s }) := Lib.hid (by rw [← hwd]; exact E3.out)
    clear hwd
    refine held_take 0 ?_ rfl (by kernel_rfl) (by kernel_rfl) (by kernel_rfl) (fun _ _ _ h => h) (Or.inl ⟨by kernel_rfl, ?_⟩) ED.out ?_
    rotate_left 1
    · intro u hu; obtain ⟨y0, y1, y2, y3, y4, y5, y6, y7, y8⟩ := evCells hu; go_simp; first | done | with_reducible rfl
    try simp only [Act.put, nA, nB, nC, nD, nE, nF]
    refine held_one 1 (by kernel_rfl) rfl (by kernel_rfl) (fun K hK => ?_)
    go_simp
    refine ((HC _ (HW.out.at1 VD.out hB)).out).mono ?_
    rintro e w1 ⟨rfl, t1⟩
    have V1 := Lib.hid (VD.out.trans (t1.at1 B))
    have E1 := Lib.hid (ED.out.turn t1)
    clear t1
    refine hK _ _ E1.out ?_
    clear hK K
    try simp only [Act.put, nA, nB, nC, nD, nE, nF]
    refine held_take 2 ?_ rfl (by kernel_rfl) (by kernel_rfl) (by kernel_rfl) (fun _ _ _ h => h) (Or.inl ⟨by kernel_rfl, ?_⟩) E1.out ?_
    rotate_left 1
    · intro u hu; obtain ⟨y0, y1, y2, y3, y4, y5, y6, y7, y8⟩ := evCells hu; go_simp; first | done | with_reducible rfl
    try simp only [Act.put, nA, nB, nC, nD, nE, nF]
    refine held_take 3 undef rfl (by kernel_rfl) (by kernel_rfl) (by kernel_rfl) (fun _ _ _ h => h) (Or.inr ⟨by kernel_rfl, rfl⟩) E1.out ?_
    try simp only [Act.put, nA, nB, nC, nD, nE, nF]
    refine held_take 4 undef rfl (by kernel_rfl) (by kernel_rfl) (by kernel_rfl) (fun _ _ _ h => h) (Or.inr ⟨by kernel_rfl, rfl⟩) E1.out ?_
    try simp only [Act.put, nA, nB, nC, nD, nE, nF]
    refine held_take 5 undef rfl (by kernel_rfl) (by kernel_rfl) (by kernel_rfl) (fun _ _ _ h => h) (Or.inr ⟨by kernel_rfl, rfl⟩) E1.out ?_
    try simp only [Act.put, nA, nB, nC, nD, nE, nF]
    refine held_take 6 undef rfl (by kernel_rfl) (by kernel_rfl) (by kernel_rfl) (fun _ _ _ h => h) (Or.inr ⟨by kernel_rfl, rfl⟩) E1.out ?_
    try simp only [Act.put, nA, nB, nC, nD, nE, nF]
    refine held_take 7 undef rfl (by kernel_rfl) (by kernel_rfl) (by kernel_rfl) (fun _ _ _ h => h) (Or.inr ⟨by kernel_rfl, rfl⟩) E1.out ?_
    try simp only [Act.put, nA, nB, nC, nD, nE, nF]
    refine held_take 8 undef rfl (by kernel_rfl) (by kernel_rfl) (by kernel_rfl) (fun _ _ _ h => h) (Or.inr ⟨by kernel_rfl, rfl⟩) E1.out ?_
    try simp only [Act.put, nA, nB, nC, nD, nE, nF]
    refine held_take 9 undef rfl (by kernel_rfl) (by kernel_rfl) (by kernel_rfl) (fun _ _ _ h => h) (Or.inr ⟨by kernel_rfl, rfl⟩) E1.out ?_
    try simp only [Act.put, nA, nB, nC, nD, nE, nF]
    refine held_take 10 ?_ rfl (by kernel_rfl) (by kernel_rfl) (by kernel_rfl) (fun _ _ _ h => h) (Or.inl ⟨by kernel_rfl, ?_⟩) E1.out ?_
    rotate_left 1
    · intro u hu; obtain ⟨y0, y1, y2, y3, y4, y5, y6, y7, y8⟩ := evCells hu; go_simp; first | done | with_reducible rfl
    try simp only [Act.put, nA, nB, nC, nD, nE, nF]
    refine held_one 11 (by kernel_rfl) rfl (by kernel_rfl) (fun K hK => ?_)
    go_simp
    refine (need_no _).mono ?_
    rintro e wn ⟨rfl, rfl⟩
    exact ⟨rfl, rfl, V1.out⟩
  | true =>
    by_cases hpa : parentL s = E.actor
    · rw [if_pos ⟨rfl, hpa⟩]
      rw [decide_eq_true hpa] at hq
      clear hc hP hpa
      go_enter Tryz.func95, Tryz.ntmps95
      go_upto_region 1 with (fail)
      generalize hws : World.setCell w _ _ = w3
      have E3 : Hid (EvAt w3 B { E with chan := s }) := Lib.hid (by rw [← hws]; exact HE.out.chan s)
      have T3 : Hid (Turn (At1 B) w w3) := Lib.hid (by rw [← hws]; exact ((Turn.refl Nn w).at1 B).set1 _ _)
      clear hws y0 y1 y2 y3 y4 y5 y6 y7 y8 z7
      refine held_begin (fun u => EvAt u B { E with chan := s }) (by kernel_rfl) ?_
      generalize hwd : World.drew w3 = wd
      have VD : Hid (Turn (At1 B) w wd) := Lib.hid (by rw [← hwd]; exact T3.out.drew)
      have ED : Hid (EvAt wd B { E with chan := s }) := Lib.hid (by rw [← hwd]; exact E3.out)
      clear hwd
      refine held_take 0 ?_ rfl (by kernel_rfl) (by kernel_rfl) (by kernel_rfl) (fun _ _ _ h => h) (Or.inl ⟨by kernel_rfl, ?_⟩) ED.out ?_
      rotate_left 1
      · intro u hu; obtain ⟨y0, y1, y2, y3, y4, y5, y6, y7, y8⟩ := evCells hu; go_simp; first | done | with_reducible rfl
      try simp only [Act.put, nA, nB, nC, nD, nE, nF]
      refine held_one 1 (by kernel_rfl) rfl (by kernel_rfl) (fun K hK => ?_)
      go_simp
      refine ((HC _ (HW.out.at1 VD.out hB)).out).mono ?_
      rintro e w1 ⟨rfl, t1⟩
      have V1 := Lib.hid (VD.out.trans (t1.at1 B))
      have E1 := Lib.hid (ED.out.turn t1)
      clear t1
      refine hK _ _ E1.out ?_
      clear hK K
      try simp only [Act.put, nA, nB, nC, nD, nE, nF]
      refine held_take 2 ?_ rfl (by kernel_rfl) (by kernel_rfl) (by kernel_rfl) (fun _ _ _ h => h) (Or.inl ⟨by kernel_rfl, ?_⟩) E1.out ?_
      rotate_left 1
      · intro u hu; obtain ⟨y0, y1, y2, y3, y4, y5, y6, y7, y8⟩ := evCells hu; go_simp; first | done | with_reducible rfl
      try simp only [Act.put, nA, nB, nC, nD, nE, nF]
      refine held_take 3 ?_ rfl (by kernel_rfl) (by kernel_rfl) (by kernel_rfl) (fun _ _ _ h => h) (Or.inl ⟨by kernel_rfl, ?_⟩) E1.out ?_
      rotate_left 1
      · intro u hu; obtain ⟨y0, y1, y2, y3, y4, y5, y6, y7, y8⟩ := evCells hu; go_simp; first | done | with_reducible rfl
      try simp only [Act.put, nA, nB, nC, nD, nE, nF]
      refine held_take 5 ?_ rfl (by kernel_rfl) (by kernel_rfl) (by kernel_rfl) (fun _ _ _ h => h) (Or.inl ⟨by kernel_rfl, ?_⟩) E1.out ?_
      rotate_left 1
      · intro u hu; obtain ⟨y0, y1, y2, y3, y4, y5, y6, y7, y8⟩ := evCells hu; go_simp; first | done | with_reducible rfl
      try simp only [Act.put, nA, nB, nC, nD, nE, nF]
      refine held_take 6 ?_ rfl (by kernel_rfl) (by kernel_rfl) (by kernel_rfl) (fun _ _ _ h => h) (Or.inl ⟨by kernel_rfl, ?_⟩) E1.out ?_
      rotate_left 1
      · intro u hu; obtain ⟨y0, y1, y2, y3, y4, y5, y6, y7, y8⟩ := evCells hu; go_simp; first | done | with_reducible rfl
      try simp only [Act.put, nA, nB, nC, nD, nE, nF]
      refine held_take 7 ?_ rfl (by kernel_rfl) (by kernel_rfl) (by kernel_rfl) (fun _ _ _ h => h) (Or.inl ⟨by kernel_rfl, ?_⟩) E1.out ?_
      rotate_left 1
      · intro u hu; obtain ⟨y0, y1, y2, y3, y4, y5, y6, y7, y8⟩ := evCells hu; go_simp; first | done | with_reducible rfl
      try simp only [Act.put, nA, nB, nC, nD, nE, nF]
      refine held_take 8 ?_ rfl (by kernel_rfl) (by kernel_rfl) (by kernel_rfl) (fun _ _ _ h => h) (Or.inl ⟨by kernel_rfl, ?_⟩) E1.out ?_
      rotate_left 1
      · intro u hu; obtain ⟨y0, y1, y2, y3, y4, y5, y6, y7, y8⟩ := evCells hu; go_simp; first | done | with_reducible rfl
      try simp only [Act.put, nA, nB, nC, nD, nE, nF]
      refine held_one 4 (by kernel_rfl) rfl (by kernel_rfl) (fun K hK => ?_)
      go_simp
      refine ((HP _ (HW.out.at1 V1.out hB)).out).mono ?_
      rintro e w2 ⟨rfl, t2⟩
      have V2 := Lib.hid (V1.out.trans (t2.at1 B))
      have E2 := Lib.hid (E1.out.turn t2)
      clear t2
      refine hK _ _ E2.out ?_
      clear hK K
      try simp only [Act.put, nA, nB, nC, nD, nE, nF]
      refine held_take 9 ?_ rfl (by kernel_rfl) (by kernel_rfl) (by kernel_rfl) (fun _ _ _ h => h) (Or.inl ⟨by kernel_rfl, ?_⟩) E2.out ?_
      rotate_left 1
      · intro u hu; obtain ⟨y0, y1, y2, y3, y4, y5, y6, y7, y8⟩ := evCells hu; go_simp; first | done | with_reducible rfl
      try simp only [Act.put, nA, nB, nC, nD, nE, nF]
      refine held_take 10 ?_ rfl (by kernel_rfl) (by kernel_rfl) (by kernel_rfl) (fun _ _ _ h => h) (Or.inl ⟨by kernel_rfl, ?_⟩) E2.out ?_
      rotate_left 1
      · intro u hu; obtain ⟨y0, y1, y2, y3, y4, y5, y6, y7, y8⟩ := evCells hu; go_simp; first | done | with_reducible rfl
      try simp only [Act.put, nA, nB, nC, nD, nE, nF]
      refine held_one 11 (by kernel_rfl) rfl (by kernel_rfl) (fun K hK => ?_)
      go_simp
      refine (need_yes _).mono ?_
      rintro e wn ⟨rfl, rfl⟩
      refine hK _ _ E2.out ?_
      clear hK K
      try simp only [Act.put, nA, nB, nC, nD, nE, nF]
      refine wpAnyH_done (by kernel_rfl) ?_ _
      go_wp2_with fail
      go_end0
      exact ⟨⟨rfl, E2.out⟩, V2.out⟩
    · rw [if_neg (fun h => hpa h.2)]
      rw [decide_eq_false hpa] at hq
      clear hc hP hpa
      go_enter Tryz.func95, Tryz.ntmps95
      go_upto_region 1 with (fail)
      generalize hws : World.setCell w _ _ = w3
      have E3 : Hid (EvAt w3 B { E with chan := s }) := Lib.hid (by rw [← hws]; exact HE.out.chan s)
      have T3 : Hid (Turn (At1 B) w w3) := Lib.hid (by rw [← hws]; exact ((Turn.refl Nn w).at1 B).set1 _ _)
      clear hws y0 y1 y2 y3 y4 y5 y6 y7 y8 z7
      refine held_begin (fun u => EvAt u B { E with chan := s }) (by kernel_rfl) ?_
      generalize hwd : World.drew w3 = wd
      have VD : Hid (Turn (At1 B) w wd) := Lib.hid (by rw [← hwd]; exact T3.out.drew)
      have ED : Hid (EvAt wd B { E with chan := s }) := Lib.hid (by rw [← hwd]; exact E3.out)
      clear hwd
      refine held_take 0 ?_ rfl (by kernel_rfl) (by kernel_rfl) (by kernel_rfl) (fun _ _ _ h => h) (Or.inl ⟨by kernel_rfl, ?_⟩) ED.out ?_
      rotate_left 1
      · intro u hu; obtain ⟨y0, y1, y2, y3, y4, y5, y6, y7, y8⟩ := evCells hu; go_simp; first | done | with_reducible rfl
      try simp only [Act.put, nA, nB, nC, nD, nE, nF]
      refine held_one 1 (by kernel_rfl) rfl (by kernel_rfl) (fun K hK => ?_)
      go_simp
      refine ((HC _ (HW.out.at1 VD.out hB)).out).mono ?_
      rintro e w1 ⟨rfl, t1⟩
      have V1 := Lib.hid (VD.out.trans (t1.at1 B))
      have E1 := Lib.hid (ED.out.turn t1)
      clear t1
      refine hK _ _ E1.out ?_
      clear hK K
      try simp only [Act.put, nA, nB, nC, nD, nE, nF]
      refine held_take 2 ?_ rfl (by kernel_rfl) (by kernel_rfl) (by kernel_rfl) (fun _ _ _ h => h) (Or.inl ⟨by kernel_rfl, ?_⟩) E1.out ?_
      rotate_left 1
      · intro u hu; obtain ⟨y0, y1, y2, y3, y4, y5, y6, y7, y8⟩ := evCells hu; go_simp; first | done | with_reducible rfl
      try simp only [Act.put, nA, nB, nC, nD, nE, nF]
      refine held_take 3 ?_ rfl (by kernel_rfl) (by kernel_rfl) (by kernel_rfl) (fun _ _ _ h => h) (Or.inl ⟨by kernel_rfl, ?_⟩) E1.out ?_
      rotate_left 1
      · intro u hu; obtain ⟨y0, y1, y2, y3, y4, y5, y6, y7, y8⟩ := evCells hu; go_simp; first | done | with_reducible rfl
      try simp only [Act.put, nA, nB, nC, nD, nE, nF]
      refine held_take 5 ?_ rfl (by kernel_rfl) (by kernel_rfl) (by kernel_rfl) (fun _ _ _ h => h) (Or.inl ⟨by kernel_rfl, ?_⟩) E1.out ?_
      rotate_left 1
      · intro u hu; obtain ⟨y0, y1, y2, y3, y4, y5, y6, y7, y8⟩ := evCells hu; go_simp; first | done | with_reducible rfl
      try simp only [Act.put, nA, nB, nC, nD, nE, nF]
      refine held_take 6 ?_ rfl (by kernel_rfl) (by kernel_rfl) (by kernel_rfl) (fun _ _ _ h => h) (Or.inl ⟨by kernel_rfl, ?_⟩) E1.out ?_
      rotate_left 1
      · intro u hu; obtain ⟨y0, y1, y2, y3, y4, y5, y6, y7, y8⟩ := evCells hu; go_simp; first | done | with_reducible rfl
      try simp only [Act.put, nA, nB, nC, nD, nE, nF]
      refine held_take 7 ?_ rfl (by kernel_rfl) (by kernel_rfl) (by kernel_rfl) (fun _ _ _ h => h) (Or.inl ⟨by kernel_rfl, ?_⟩) E1.out ?_
      rotate_left 1
      · intro u hu; obtain ⟨y0, y1, y2, y3, y4, y5, y6, y7, y8⟩ := evCells hu; go_simp; first | done | with_reducible rfl
      try simp only [Act.put, nA, nB, nC, nD, nE, nF]
      refine held_take 8 ?_ rfl (by kernel_rfl) (by kernel_rfl) (by kernel_rfl) (fun _ _ _ h => h) (Or.inl ⟨by kernel_rfl, ?_⟩) E1.out ?_
      rotate_left 1
      · intro u hu; obtain ⟨y0, y1, y2, y3, y4, y5, y6, y7, y8⟩ := evCells hu; go_simp; first | done | with_reducible rfl
      try simp only [Act.put, nA, nB, nC, nD, nE, nF]
      refine held_one 4 (by kernel_rfl) rfl (by kernel_rfl) (fun K hK => ?_)
      go_simp
      refine ((HP _ (HW.out.at1 V1.out hB)).out).mono ?_
      rintro e w2 ⟨rfl, t2⟩
      have V2 := Lib.hid (V1.out.trans (t2.at1 B))
      have E2 := Lib.hid (E1.out.turn t2)
      clear t2
      refine hK _ _ E2.out ?_
      clear hK K
      try simp only [Act.put, nA, nB, nC, nD, nE, nF]
      refine held_take 9 ?_ rfl (by kernel_rfl) (by kernel_rfl) (by kernel_rfl) (fun _ _ _ h => h) (Or.inl ⟨by kernel_rfl, ?_⟩) E2.out ?_
      rotate_left 1
      · intro u hu; obtain ⟨y0, y1, y2, y3, y4, y5, y6, y7, y8⟩ := evCells hu; go_simp; first | done | with_reducible rfl
      try simp only [Act.put, nA, nB, nC, nD, nE, nF]
      refine held_take 10 ?_ rfl (by kernel_rfl) (by kernel_rfl) (by kernel_rfl) (fun _ _ _ h => h) (Or.inl ⟨by kernel_rfl, ?_⟩) E2.out ?_
      rotate_left 1
      · intro u hu; obtain ⟨y0, y1, y2, y3, y4, y5, y6, y7, y8⟩ := evCells hu; go_simp; first | done | with_reducible rfl
      try simp only [Act.put, nA, nB, nC, nD, nE, nF]
      refine held_one 11 (by kernel_rfl) rfl (by kernel_rfl) (fun K hK => ?_)
      go_simp
      refine (need_no _).mono ?_
      rintro e wn ⟨rfl, rfl⟩
      exact ⟨rfl, rfl, V2.out⟩
set_option maxRecDepth 100000 in
set_option maxHeartbeats 8000000 in
theorem read_child {E : EventD} {B : Nat} {w : World} {s : Bs} (hs : s.length ≤ 4000000) (hE : EvAt w B E) (hB : 4 ≤ B) (hw : Laid w) : Calls Tryz.prog 97 #[.pointer (some ⟨B, 0, none⟩), .string (BT s)] w (ReadP w B (readF .child E s)) := by
  have HW := Lib.hid hw
  have HE := Lib.hid hE
  have HC := fun w (h : Laid w) => Lib.hid (actor_any hs h)
  have HP := fun w (h : Laid w) => Lib.hid (parent_any hs h)
  have ht : readF .child E s = if actorL s = true ∧ parentL s = E.actor then some { E with name := s } else none := rfl
  rw [ht]
  have hq : ((BT (parentL s)).toList == (BT E.actor).toList) = decide (parentL s = E.actor) := by
    rw [BT_toList, BT_toList, Bool.eq_iff_iff, beq_iff_eq, decide_eq_true_eq]
  obtain ⟨y0, y1, y2, y3, y4, y5, y6, y7, y8⟩ := evCells HE.out
  have z7 := frozen_blk (o := 8) HE.out
  clear hw hE ht
  obtain ⟨c, hc⟩ : ∃ c, actorL s = c := ⟨_, rfl⟩
  obtain ⟨P, hP⟩ : ∃ P, BT (parentL s) = P := ⟨_, rfl⟩
  simp only [hc] at HC ⊢
  simp only [hP] at HP hq
  cases c with
  | false =>
    rw [if_neg (by rintro ⟨h, _⟩; cases h)]
    clear hc hP hq HP
    go_enter Tryz.func97, Tryz.ntmps97
    go_upto_region 1 with (fail)
    generalize hws : World.setCell w _ _ = w3
    have E3 : Hid (EvAt w3 B { E with name := s }) := Lib.hid (by rw [← hws]; exact HE.out.name s)
    have T3 : Hid (Turn (At1 B) w w3) := Lib.hid (by rw [← hws]; exact ((Turn.refl Nn w).at1 B).set1 _ _)
    clear hws y0 y1 y2 y3 y4 y5 y6 y7 y8 z7
    refine held_begin (fun u => EvAt u B { E with name := s }) (by kernel_rfl) ?_
    generalize hwd : World.drew w3 = wd
    have VD : Hid (Turn (At1 B) w wd) := Lib.hid (by rw [← hwd]; exact T3.out.drew)
    have ED : Hid (EvAt wd B { E with name := s }) := Lib.hid (by rw [← hwd]; exact E3.out)
    clear hwd
    refine held_take 0 ?_ rfl (by kernel_rfl) (by kernel_rfl) (by kernel_rfl) (fun _ _ _ h => h) (Or.inl ⟨by kernel_rfl, ?_⟩) ED.out ?_
    rotate_left 1
    · intro u hu; obtain ⟨y0, y1, y2, y3, y4, y5, y6, y7, y8⟩ := evCells hu; go_simp; first | done | with_reducible rfl
    try simp only [Act.put, nA, nB, nC, nD, nE, nF]
    refine held_one 1 (by kernel_rfl) rfl (by kernel_rfl) (fun K hK => ?_)
    go_simp
    refine ((HC _ (HW.out.at1 VD.out hB)).out).mono ?_
    rintro e w1 ⟨rfl, t1⟩
    have V1 := Lib.hid (VD.out.trans (t1.at1 B))
    have E1 := Lib.hid (ED.out.turn t1)
    clear t1
    refine hK _ _ E1.out ?_
    clear hK K
    try simp only [Act.put, nA, nB, nC, nD, nE, nF]
    refine held_take 2 ?_ rfl (by kernel_rfl) (by kernel_rfl) (by kernel_rfl) (fun _ _ _ h => h) (Or.inl ⟨by kernel_rfl, ?_⟩) E1.out ?_
    rotate_left 1
    · intro u hu; obtain ⟨y0, y1, y2, y3, y4, y5, y6, y7, y8⟩ := evCells hu; go_simp; first | done | with_reducible rfl
    try simp only [Act.put, nA, nB, nC, nD, nE, nF]
    refine held_take 3 undef rfl (by kernel_rfl) (by kernel_rfl) (by kernel_rfl) (fun _ _ _ h => h) (Or.inr ⟨by kernel_rfl, rfl⟩) E1.out ?_
    try simp only [Act.put, nA, nB, nC, nD, nE, nF]
    refine held_take 4 undef rfl (by kernel_rfl) (by kernel_rfl) (by kernel_rfl) (fun _ _ _ h => h) (Or.inr ⟨by kernel_rfl, rfl⟩) E1.out ?_
    try simp only [Act.put, nA, nB, nC, nD, nE, nF]
    refine held_take 5 undef rfl (by kernel_rfl) (by kernel_rfl) (by kernel_rfl) (fun _ _ _ h => h) (Or.inr ⟨by kernel_rfl, rfl⟩) E1.out ?_
    try simp only [Act.put, nA, nB, nC, nD, nE, nF]
    refine held_take 6 undef rfl (by kernel_rfl) (by kernel_rfl) (by kernel_rfl) (fun _ _ _ h => h) (Or.inr ⟨by kernel_rfl, rfl⟩) E1.out ?_
    try simp only [Act.put, nA, nB, nC, nD, nE, nF]
    refine held_take 7 undef rfl (by kernel_rfl) (by kernel_rfl) (by kernel_rfl) (fun _ _ _ h => h) (Or.inr ⟨by kernel_rfl, rfl⟩) E1.out ?_
    try simp only [Act.put, nA, nB, nC, nD, nE, nF]
    refine held_take 8 undef rfl (by kernel_rfl) (by kernel_rfl) (by kernel_rfl) (fun _ _ _ h => h) (Or.inr ⟨by kernel_rfl, rfl⟩) E1.out ?_
    try simp only [Act.put, nA, nB, nC, nD, nE, nF]
    refine held_take 9 undef rfl (by kernel_rfl) (by kernel_rfl) (by kernel_rfl) (fun _ _ _ h => h) (Or.inr ⟨by kernel_rfl, rfl⟩) E1.out ?_
    try simp only [Act.put, nA, nB, nC, nD, nE, nF]
    refine held_take 10 ?_ rfl (by kernel_rfl) (by kernel_rfl) (by kernel_rfl) (fun _ _ _ h => h) (Or.inl ⟨by kernel_rfl, ?_⟩) E1.out ?_
    rotate_left 1
    · intro u hu; obtain ⟨y0, y1, y2, y3, y4, y5, y6, y7, y8⟩ := evCells hu; go_simp; first | done | with_reducible rfl
    try simp only [Act.put, nA, nB, nC, nD, nE, nF]
    refine held_one 11 (by kernel_rfl) rfl (by kernel_rfl) (fun K hK => ?_)
    go_simp
    refine (need_no _).mono ?_
    rintro e wn ⟨rfl, rfl⟩
    exact ⟨rfl, rfl, V1.out⟩
  | true =>
    by_cases hpa : parentL s = E.actor
    · rw [if_pos ⟨rfl, hpa⟩]
      rw [decide_eq_true hpa] at hq
      clear hc hP hpa
      go_enter Tryz.func97, Tryz.ntmps97
      go_upto_region 1 with (fail)
      generalize hws : World.setCell w _ _ = w3
      have E3 : Hid (EvAt w3 B { E with name := s }) := Lib.hid (by rw [← hws]; exact HE.out.name s)
      have T3 : Hid (Turn (At1 B) w w3) := Lib.hid (by rw [← hws]; exact ((Turn.refl Nn w).at1 B).set1 _ _)
      clear hws y0 y1 y2 y3 y4 y5 y6 y7 y8 z7
      refine held_begin (fun u => EvAt u B { E with name := s }) (by kernel_rfl) ?_
      generalize hwd : World.drew w3 = wd
      have VD : Hid (Turn (At1 B) w wd) := Lib.hid (by rw [← hwd]; exact T3.out.drew)
      have ED : Hid (EvAt wd B { E with name := s }) := Lib.hid (by rw [← hwd]; exact E3.out)
      clear hwd
      refine held_take 0 ?_ rfl (by kernel_rfl) (by kernel_rfl) (by kernel_rfl) (fun _ _ _ h => h) (Or.inl ⟨by kernel_rfl, ?_⟩) ED.out ?_
      rotate_left 1
      · intro u hu; obtain ⟨y0, y1, y2, y3, y4, y5, y6, y7, y8⟩ := evCells hu; go_simp; first | done | with_reducible rfl
      try simp only [Act.put, nA, nB, nC, nD, nE, nF]
      refine held_one 1 (by kernel_rfl) rfl (by kernel_rfl) (fun K hK => ?_)
      go_simp
      refine ((HC _ (HW.out.at1 VD.out hB)).out).mono ?_
      rintro e w1 ⟨rfl, t1⟩
      have V1 := Lib.hid (VD.out.trans (t1.at1 B))
      have E1 := Lib.hid (ED.out.turn t1)
      clear t1
      refine hK _ _ E1.out ?_
      clear hK K
      try simp only [Act.put, nA, nB, nC, nD, nE, nF]
      refine held_take 2 ?_ rfl (by kernel_rfl) (by kernel_rfl) (by kernel_rfl) (fun _ _ _ h => h) (Or.inl ⟨by kernel_rfl, ?_⟩) E1.out ?_
      rotate_left 1
      · intro u hu; obtain ⟨y0, y1, y2, y3, y4, y5, y6, y7, y8⟩ := evCells hu; go_simp; first | done | with_reducible rfl
      try simp only [Act.put, nA, nB, nC, nD, nE, nF]
      refine held_take 3 ?_ rfl (by kernel_rfl) (by kernel_rfl) (by kernel_rfl) (fun _ _ _ h => h) (Or.inl ⟨by kernel_rfl, ?_⟩) E1.out ?_
      rotate_left 1
      · intro u hu; obtain ⟨y0, y1, y2, y3, y4, y5, y6, y7, y8⟩ := evCells hu; go_simp; first | done | with_reducible rfl
      try simp only [Act.put, nA, nB, nC, nD, nE, nF]
      refine held_take 5 ?_ rfl (by kernel_rfl) (by kernel_rfl) (by kernel_rfl) (fun _ _ _ h => h) (Or.inl ⟨by kernel_rfl, ?_⟩) E1.out ?_
      rotate_left 1
      · intro u hu; obtain ⟨y0, y1, y2, y3, y4, y5, y6, y7, y8⟩ := evCells hu; go_simp; first | done | with_reducible rfl
      try simp only [Act.put, nA, nB, nC, nD, nE, nF]
      refine held_take 6 ?_ rfl (by kernel_rfl) (by kernel_rfl) (by kernel_rfl) (fun _ _ _ h => h) (Or.inl ⟨by kernel_rfl, ?_⟩) E1.out ?_
      rotate_left 1
      · intro u hu; obtain ⟨y0, y1, y2, y3, y4, y5, y6, y7, y8⟩ := evCells hu; go_simp; first | done | with_reducible rfl
      try simp only [Act.put, nA, nB, nC, nD, nE, nF]
      refine held_take 7 ?_ rfl (by kernel_rfl) (by kernel_rfl) (by kernel_rfl) (fun _ _ _ h => h) (Or.inl ⟨by kernel_rfl, ?_⟩) E1.out ?_
      rotate_left 1
      · intro u hu; obtain ⟨y0, y1, y2, y3, y4, y5, y6, y7, y8⟩ := evCells hu; go_simp; first | done | with_reducible rfl
      try simp only [Act.put, nA, nB, nC, nD, nE, nF]
      refine held_take 8 ?_ rfl (by kernel_rfl) (by kernel_rfl) (by kernel_rfl) (fun _ _ _ h => h) (Or.inl ⟨by kernel_rfl, ?_⟩) E1.out ?_
      rotate_left 1
      · intro u hu; obtain ⟨y0, y1, y2, y3, y4, y5, y6, y7, y8⟩ := evCells hu; go_simp; first | done | with_reducible rfl
      try simp only [Act.put, nA, nB, nC, nD, nE, nF]
      refine held_one 4 (by kernel_rfl) rfl (by kernel_rfl) (fun K hK => ?_)
      go_simp
      refine ((HP _ (HW.out.at1 V1.out hB)).out).mono ?_
      rintro e w2 ⟨rfl, t2⟩
      have V2 := Lib.hid (V1.out.trans (t2.at1 B))
      have E2 := Lib.hid (E1.out.turn t2)
      clear t2
      refine hK _ _ E2.out ?_
      clear hK K
      try simp only [Act.put, nA, nB, nC, nD, nE, nF]
      refine held_take 9 ?_ rfl (by kernel_rfl) (by kernel_rfl) (by kernel_rfl) (fun _ _ _ h => h) (Or.inl ⟨by kernel_rfl, ?_⟩) E2.out ?_
      rotate_left 1
      · intro u hu; obtain ⟨y0, y1, y2, y3, y4, y5, y6, y7, y8⟩ := evCells hu; go_simp; first | done | with_reducible rfl
      try simp only [Act.put, nA, nB, nC, nD, nE, nF]
      refine held_take 10 ?_ rfl (by kernel_rfl) (by kernel_rfl) (by kernel_rfl) (fun _ _ _ h => h) (Or.inl ⟨by kernel_rfl, ?_⟩) E2.out ?_
      rotate_left 1
      · intro u hu; obtain ⟨y0, y1, y2, y3, y4, y5, y6, y7, y8⟩ := evCells hu; go_simp; first | done | with_reducible rfl
      try simp only [Act.put, nA, nB, nC, nD, nE, nF]
      refine held_one 11 (by kernel_rfl) rfl (by kernel_rfl) (fun K hK => ?_)
      go_simp
      refine (need_yes _).mono ?_
      rintro e wn ⟨rfl, rfl⟩
      refine hK _ _ E2.out ?_
      clear hK K
      try simp only [Act.put, nA, nB, nC, nD, nE, nF]
      refine wpAnyH_done (by kernel_rfl) ?_ _
      go_wp2_with fail
      go_end0
      exact ⟨⟨rfl, E2.out⟩, V2.out⟩
    · rw [if_neg (fun h => hpa h.2)]
      rw [decide_eq_false hpa] at hq
      clear hc hP hpa
      go_enter Tryz.func97, Tryz.ntmps97
      go_upto_region 1 with (fail)
      generalize hws : World.setCell w _ _ = w3
      have E3 : Hid (EvAt w3 B { E with name := s }) := Lib.hid (by rw [← hws]; exact HE.out.name s)
      have T3 : Hid (Turn (At1 B) w w3) := Lib.hid (by rw [← hws]; exact ((Turn.refl Nn w).at1 B).set1 _ _)
      clear hws y0 y1 y2 y3 y4 y5 y6 y7 y8 z7
      refine held_begin (fun u => EvAt u B { E with name := s }) (by kernel_rfl) ?_
      generalize hwd : World.drew w3 = wd
      have VD : Hid (Turn (At1 B) w wd) := Lib.hid (by rw [← hwd]; exact T3.out.drew)
      have ED : Hid (EvAt wd B { E with name := s }) := Lib.hid (by rw [← hwd]; exact E3.out)
      clear hwd
      refine held_take 0 ?_ rfl (by kernel_rfl) (by kernel_rfl) (by kernel_rfl) (fun _ _ _ h => h) (Or.inl ⟨by kernel_rfl, ?_⟩) ED.out ?_
      rotate_left 1
      · intro u hu; obtain ⟨y0, y1, y2, y3, y4, y5, y6, y7, y8⟩ := evCells hu; go_simp; first | done | with_reducible rfl
      try simp only [Act.put, nA, nB, nC, nD, nE, nF]
      refine held_one 1 (by kernel_rfl) rfl (by kernel_rfl) (fun K hK => ?_)
      go_simp
      refine ((HC _ (HW.out.at1 VD.out hB)).out).mono ?_
      rintro e w1 ⟨rfl, t1⟩
      have V1 := Lib.hid (VD.out.trans (t1.at1 B))
      have E1 := Lib.hid (ED.out.turn t1)
      clear t1
      refine hK _ _ E1.out ?_
      clear hK K
      try simp only [Act.put, nA, nB, nC, nD, nE, nF]
      refine held_take 2 ?_ rfl (by kernel_rfl) (by kernel_rfl) (by kernel_rfl) (fun _ _ _ h => h) (Or.inl ⟨by kernel_rfl, ?_⟩) E1.out ?_
      rotate_left 1
      · intro u hu; obtain ⟨y0, y1, y2, y3, y4, y5, y6, y7, y8⟩ := evCells hu; go_simp; first | done | with_reducible rfl
      try simp only [Act.put, nA, nB, nC, nD, nE, nF]
      refine held_take 3 ?_ rfl (by kernel_rfl) (by kernel_rfl) (by kernel_rfl) (fun _ _ _ h => h) (Or.inl ⟨by kernel_rfl, ?_⟩) E1.out ?_
      rotate_left 1
      · intro u hu; obtain ⟨y0, y1, y2, y3, y4, y5, y6, y7, y8⟩ := evCells hu; go_simp; first | done | with_reducible rfl
      try simp only [Act.put, nA, nB, nC, nD, nE, nF]
      refine held_take 5 ?_ rfl (by kernel_rfl) (by kernel_rfl) (by kernel_rfl) (fun _ _ _ h => h) (Or.inl ⟨by kernel_rfl, ?_⟩) E1.out ?_
      rotate_left 1
      · intro u hu; obtain ⟨y0, y1, y2, y3, y4, y5, y6, y7, y8⟩ := evCells hu; go_simp; first | done | with_reducible rfl
      try simp only [Act.put, nA, nB, nC, nD, nE, nF]
      refine held_take 6 ?_ rfl (by kernel_rfl) (by kernel_rfl) (by kernel_rfl) (fun _ _ _ h => h) (Or.inl ⟨by kernel_rfl, ?_⟩) E1.out ?_
      rotate_left 1
      · intro u hu; obtain ⟨y0, y1, y2, y3, y4, y5, y6, y7, y8⟩ := evCells hu; go_simp; first | done | with_reducible rfl
      try simp only [Act.put, nA, nB, nC, nD, nE, nF]
      refine held_take 7 ?_ rfl (by kernel_rfl) (by kernel_rfl) (by kernel_rfl) (fun _ _ _ h => h) (Or.inl ⟨by kernel_rfl, ?_⟩) E1.out ?_
      rotate_left 1
      · intro u hu; obtain ⟨y0, y1, y2, y3, y4, y5, y6, y7, y8⟩ := evCells hu; go_simp; first | done | with_reducible rfl
      try simp only [Act.put, nA, nB, nC, nD, nE, nF]
      refine held_take 8 ?_ rfl (by kernel_rfl) (by kernel_rfl) (by kernel_rfl) (fun _ _ _ h => h) (Or.inl ⟨by kernel_rfl, ?_⟩) E1.out ?_
      rotate_left 1
      · intro u hu; obtain ⟨y0, y1, y2, y3, y4, y5, y6, y7, y8⟩ := evCells hu; go_simp; first | done | with_reducible rfl
      try simp only [Act.put, nA, nB, nC, nD, nE, nF]
      refine held_one 4 (by kernel_rfl) rfl (by kernel_rfl) (fun K hK => ?_)
      go_simp
      refine ((HP _ (HW.out.at1 V1.out hB)).out).mono ?_
      rintro e w2 ⟨rfl, t2⟩
      have V2 := Lib.hid (V1.out.trans (t2.at1 B))
      have E2 := Lib.hid (E1.out.turn t2)
      clear t2
      refine hK _ _ E2.out ?_
      clear hK K
      try simp only [Act.put, nA, nB, nC, nD, nE, nF]
      refine held_take 9 ?_ rfl (by kernel_rfl) (by kernel_rfl) (by kernel_rfl) (fun _ _ _ h => h) (Or.inl ⟨by kernel_rfl, ?_⟩) E2.out ?_
      rotate_left 1
      · intro u hu; obtain ⟨y0, y1, y2, y3, y4, y5, y6, y7, y8⟩ := evCells hu; go_simp; first | done | with_reducible rfl
      try simp only [Act.put, nA, nB, nC, nD, nE, nF]
      refine held_take 10 ?_ rfl (by kernel_rfl) (by kernel_rfl) (by kernel_rfl) (fun _ _ _ h => h) (Or.inl ⟨by kernel_rfl, ?_⟩) E2.out ?_
      rotate_left 1
      · intro u hu; obtain ⟨y0, y1, y2, y3, y4, y5, y6, y7, y8⟩ := evCells hu; go_simp; first | done | with_reducible rfl
      try simp only [Act.put, nA, nB, nC, nD, nE, nF]
      refine held_one 11 (by kernel_rfl) rfl (by kernel_rfl) (fun K hK => ?_)
      go_simp
      refine (need_no _).mono ?_
      rintro e wn ⟨rfl, rfl⟩
      exact ⟨rfl, rfl, V2.out⟩
set_option maxRecDepth 100000 in
set_option maxHeartbeats 8000000 in
theorem read_place {E : EventD} {B : Nat} {w : World} {s : Bs} (hs : s.length ≤ 4000000) (hE : EvAt w B E) (hw : Laid w) : Calls Tryz.prog 99 #[.pointer (some ⟨B, 0, none⟩), .string (BT s)] w (ReadP w B (readF .place E s)) := by
  have HE := Lib.hid hE
  have HN := Lib.hid (end_any hs hw)
  obtain ⟨S, hS⟩ : ∃ S, BT s = S := ⟨_, rfl⟩
  rw [hS] at HN ⊢
  clear hw hE hS
  cases hn : endL s with
  | none =>
    have ht : readF .place E s = none := by simp only [readF]; rw [hn]
    rw [ht]
    rw [endA_none hn] at HN
    clear hn ht
    go_enter Tryz.func99, Tryz.ntmps99
    go_wp2_with fail
    refine HN.out.mono ?_
    rintro e w2 ⟨rfl, t2⟩
    have T2 := Lib.hid t2
    clear t2
    go_wp2_with fail
    refine (need_no _).mono ?_
    rintro e w3 ⟨rfl, rfl⟩
    exact ⟨rfl, rfl, T2.out.at1 B⟩
  | some p =>
    obtain ⟨c, n⟩ := p
    have ht : readF .place E s = some { E with chan := c, side := (n : Int) } := by simp only [readF]; rw [hn]
    rw [ht]
    rw [endA_some hn] at HN
    clear hn ht
    go_enter Tryz.func99, Tryz.ntmps99
    go_wp2_with fail
    refine HN.out.mono ?_
    rintro e w2 ⟨rfl, t2⟩
    have T2 := Lib.hid t2
    have E2 := Lib.hid (HE.out.turn t2)
    clear t2
    go_wp2_with fail
    refine (need_yes _).mono ?_
    rintro e w3 ⟨rfl, rfl⟩
    obtain ⟨y0, y1, y2, y3, y4, y5, y6, y7, y8⟩ := evCells E2.out
    have z4 := frozen_blk (o := 4) E2.out
    obtain ⟨_, _, _, _, _, x5, _, _, _⟩ := evCells (E2.out.chan c)
    have z5 := frozen_blk (o := 5) (E2.out.chan c)
    clear y0 y1 y2 y3 y5 y6 y7 y8
    go_wp2_with fail
    go_end0
    exact ⟨⟨rfl, (E2.out.chan c).side n⟩, ((T2.out.at1 B).set1 _ _).set1 _ _⟩
set_option maxRecDepth 100000 in
set_option maxHeartbeats 8000000 in
theorem read_handed {E : EventD} {B b : Nat} {w : World} {s : Bs} (hs : s.length ≤ 4000000) (hE : EvAt w B E) (hb : BoxAt w b 103 29) (hw : Laid w) : Calls Tryz.prog 105 #[.pointer (some ⟨B, 0, none⟩), .string (BT s), .pointer (some ⟨b, 0, none⟩)] w (ReadP w B (readF .handed E s)) := by
  have HE := Lib.hid hE
  have HBX := Lib.hid hb
  have HN := Lib.hid (right_any hs hw)
  have ht : readF .handed E s = if (endL s).isSome then some { E with name := s } else none := rfl
  rw [ht]
  have yb := hb.cell
  clear hw hE ht hb
  by_cases h8 : (endL s).isSome = true
  · rw [if_pos h8]
    simp only [if_pos h8] at HN
    clear h8
    go_enter Tryz.func105, Tryz.ntmps105
    go_wp2_with fail
    refine HN.out.mono ?_
    rintro e w2 ⟨rfl, t2⟩
    have T2 := Lib.hid t2
    have E2 := Lib.hid (HE.out.turn t2)
    obtain ⟨y0, y1, y2, y3, y4, y5, y6, y7, y8⟩ := evCells E2.out
    have z8 := frozen_blk (o := 8) E2.out
    clear t2 y0 y1 y2 y3 y4 y5 y6 y7 yb
    go_wp2_with fail
    go_end0
    exact ⟨⟨rfl, E2.out.name s⟩, (T2.out.at1 B).set1 _ _⟩
  · rw [if_neg h8]
    simp only [if_neg h8] at HN
    clear h8
    go_enter Tryz.func105, Tryz.ntmps105
    go_wp2_with fail
    refine HN.out.mono ?_
    rintro e w2 ⟨rfl, t2⟩
    exact ⟨rfl, rfl, t2.at1 B⟩
end
end Go.Proofs.YtpbjblbeepbklaaGreatDoor
