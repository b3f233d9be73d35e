/- The program's walks: how a field is told. Printed by gen_wn.py. -/
import Derived.Test.YtpbjblbeepbklaaGreatDoorKe
import Derived.Lib.ItoaLen
namespace Go.Proofs.YtpbjblbeepbklaaGreatDoor
set_option linter.unusedSimpArgs false
set_option linter.unusedVariables false
open Go.RowKit Go.Shelf

abbrev EvAt (w : World) (B : Nat) (E : EventD) : Prop := w.heap[B]? = some (.cells (evC E) 34)
theorem EvAt.turn {w w' : World} {B : Nat} {E : EventD} (h : EvAt w B E) (t : Turn Nn w w') : EvAt w' B E := (t.block B (heap_lt h) (fun h => h)).trans h
theorem evCells {w : World} {B : Nat} {E : EventD} (h : EvAt w B E) :
    w.cell? ⟨B, 0, none⟩ = some (.int .i64 E.kind) ∧ w.cell? ⟨B, 1, none⟩ = some (.int .i64 E.slot) ∧ w.cell? ⟨B, 2, none⟩ = some (.string (BT E.actor)) ∧ w.cell? ⟨B, 3, none⟩ = some (.int .i64 E.pc) ∧ w.cell? ⟨B, 4, none⟩ = some (.string (BT E.chan)) ∧
    w.cell? ⟨B, 5, none⟩ = some (.int .i64 E.side) ∧ w.cell? ⟨B, 6, none⟩ = some (.int .i64 E.tag) ∧ w.cell? ⟨B, 7, none⟩ = some (.int .i64 E.word) ∧ w.cell? ⟨B, 8, none⟩ = some (.string (BT E.name)) :=
  ⟨cell_blk h, cell_blk h, cell_blk h, cell_blk h, cell_blk h, cell_blk h, cell_blk h, cell_blk h, cell_blk h⟩
structure ESmall (E : EventD) : Prop where
  actor : E.actor.length ≤ 1100000
  chan : E.chan.length ≤ 1100000
  name : E.name.length ≤ 1100000
  ints : IntsD E
  side : Int64 E.side
  kind : Int64 E.kind
  tag : Int64 E.tag
/-- What a field tells, or given up. -/
def TellP (w : World) (x : Option Bs) (e : Ending) (w' : World) : Prop :=
  (match x with
    | some t => e = .returned (.string (BT t))
    | none => e = badE) ∧ Turn Nn w w'
theorem itoa_len {n : Int} (h : Int64 n) : (Lib.itoa n).length ≤ 21 := Lib.itoa_length_le n h.1 h.2
theorem told_word {E : EventD} (hs : ESmall E) {B : Nat} {w : World} (hE : EvAt w B E) (hw : Laid w) : Calls Tryz.prog 92 #[.pointer (some ⟨B, 0, none⟩)] w (TellP w (tellF .word E)) := by
  have HF := Lib.hid (format_any hs.ints.word hw)
  obtain ⟨y0, y1, y2, y3, y4, y5, y6, y7, y8⟩ := evCells hE
  clear y0 y1 y2 y3 y4 y5 y6 y8 hE hw
  go_enter Tryz.func92, Tryz.ntmps92
  go_wp2_with fail
  refine HF.out.mono ?_
  rintro e w2 ⟨rfl, t2⟩
  have T2 := Lib.hid t2
  clear t2
  go_wp2_with fail
  go_ret
  exact ⟨rfl, T2.out⟩
theorem most_any {n : Int} {w : World} : Calls Tryz.prog 100 #[.int .i64 n] w fun e w' => e = (if 0 ≤ n ∧ n < 8 then .returned (.tuple #[]) else badE) ∧ w' = w := by
  by_cases h0 : 0 ≤ n
  · by_cases h1 : n < 8
    · rw [if_pos ⟨h0, h1⟩]
      go_enter Tryz.func100, Tryz.ntmps100
      go_wp2_with fail
      refine (need_yes _).mono ?_
      rintro e w2 ⟨rfl, rfl⟩
      go_wp2_with fail
      go_end0
      exact ⟨rfl, rfl⟩
    · rw [if_neg (fun h => h1 h.2)]
      go_enter Tryz.func100, Tryz.ntmps100
      go_wp2_with fail
      refine (need_no _).mono ?_
      rintro e w2 ⟨rfl, rfl⟩
      exact ⟨rfl, rfl, rfl⟩
  · rw [if_neg (fun h => h0 h.1)]
    go_enter Tryz.func100, Tryz.ntmps100
    go_wp2_with fail
    refine (need_no _).mono ?_
    rintro e w2 ⟨rfl, rfl⟩
    exact ⟨rfl, rfl, rfl⟩
theorem right_any {l : Bs} (hl : l.length ≤ 4000000) {w : World} (hw : Laid w) : Calls Tryz.prog 103 #[.string (BT l)] w fun e w' => e = (if (endL l).isSome = true then .returned (.string (BT l)) else badE) ∧ Turn Nn w w' := by
  have HE := Lib.hid (end_any hl hw)
  clear hw
  cases he : endL l with
  | none =>
    rw [endA_none he] at HE
    clear he
    go_enter Tryz.func103, Tryz.ntmps103
    go_wp2_with fail
    refine HE.out.mono ?_
    rintro e w2 ⟨rfl, t2⟩
    have T2 := Lib.hid t2
    clear t2
    go_wp2_with fail
    refine (need_no _).mono ?_
    rintro e w3 ⟨rfl, rfl⟩
    exact ⟨rfl, rfl, T2.out⟩
  | some p =>
    obtain ⟨c, n⟩ := p
    rw [endA_some he] at HE
    clear he
    go_enter Tryz.func103, Tryz.ntmps103
    go_wp2_with fail
    refine HE.out.mono ?_
    rintro e w2 ⟨rfl, t2⟩
    have T2 := Lib.hid t2
    clear t2
    go_wp2_with fail
    refine (need_yes _).mono ?_
    rintro e w3 ⟨rfl, rfl⟩
    go_wp2_with fail
    go_ret
    exact ⟨rfl, T2.out⟩
set_option maxRecDepth 100000 in
set_option maxHeartbeats 8000000 in
theorem told_made {E : EventD} (hs : ESmall E) {B : Nat} {w : World} (hE : EvAt w B E) (hw : Laid w) : Calls Tryz.prog 94 #[.pointer (some ⟨B, 0, none⟩)] w (TellP w (tellF .made E)) := by
  have HW := Lib.hid hw
  have HE := Lib.hid hE
  have HC := fun w (h : Laid w) => Lib.hid (chan_any (l := E.chan) (by have := hs.chan; omega) h)
  have HP := fun w (h : Laid w) => Lib.hid (parent_any (l := E.chan) (by have := hs.chan; omega) h)
  have ht : tellF .made E = if chanL E.chan = true ∧ parentL E.chan = E.actor then some E.chan else none := rfl
  rw [ht]
  have hq : ((BT (parentL E.chan)).toList == (BT E.actor).toList) = decide (parentL E.chan = E.actor) := by
    rw [BT_toList, BT_toList, Bool.eq_iff_iff, beq_iff_eq, decide_eq_true_eq]
  clear hw hE ht
  obtain ⟨c, hc⟩ : ∃ c, chanL E.chan = c := ⟨_, rfl⟩
  obtain ⟨P, hP⟩ : ∃ P, BT (parentL E.chan) = P := ⟨_, rfl⟩
  simp only [hc] at HC ⊢
  simp only [hP] at HP hq
  cases c with
  | false =>
    rw [if_neg (by rintro ⟨h, _⟩; cases h)]
    clear hc hP hq HP
    go_enter Tryz.func94, Tryz.ntmps94
    go_upto_region 1 with (fail)
    refine held_begin (fun u => EvAt u B E) (by kernel_rfl) ?_
    generalize hwd : World.drew w = wd
    have VD : Hid (Turn Nn w wd) := Lib.hid (by rw [← hwd]; exact (Turn.refl Nn w).drew)
    have ED : Hid (EvAt wd B E) := Lib.hid (by rw [← hwd]; exact HE.out)
    clear hwd
    refine held_take 0 ?_ rfl (by kernel_rfl) (by kernel_rfl) (by kernel_rfl) (fun _ _ _ h => h) (Or.inl ⟨by kernel_rfl, ?_⟩) ED.out ?_
    rotate_left 1
    · intro u hu; obtain ⟨y0, y1, y2, y3, y4, y5, y6, y7, y8⟩ := evCells hu; go_simp; first | done | with_reducible rfl
    try simp only [Act.put, nA, nB, nC, nD, nE, nF]
    refine held_take 1 ?_ rfl (by kernel_rfl) (by kernel_rfl) (by kernel_rfl) (fun _ _ _ h => h) (Or.inl ⟨by kernel_rfl, ?_⟩) ED.out ?_
    rotate_left 1
    · intro u hu; obtain ⟨y0, y1, y2, y3, y4, y5, y6, y7, y8⟩ := evCells hu; go_simp; first | done | with_reducible rfl
    try simp only [Act.put, nA, nB, nC, nD, nE, nF]
    refine held_take 2 ?_ rfl (by kernel_rfl) (by kernel_rfl) (by kernel_rfl) (fun _ _ _ h => h) (Or.inl ⟨by kernel_rfl, ?_⟩) ED.out ?_
    rotate_left 1
    · intro u hu; obtain ⟨y0, y1, y2, y3, y4, y5, y6, y7, y8⟩ := evCells hu; go_simp; first | done | with_reducible rfl
    try simp only [Act.put, nA, nB, nC, nD, nE, nF]
    refine held_take 3 ?_ rfl (by kernel_rfl) (by kernel_rfl) (by kernel_rfl) (fun _ _ _ h => h) (Or.inl ⟨by kernel_rfl, ?_⟩) ED.out ?_
    rotate_left 1
    · intro u hu; obtain ⟨y0, y1, y2, y3, y4, y5, y6, y7, y8⟩ := evCells hu; go_simp; first | done | with_reducible rfl
    try simp only [Act.put, nA, nB, nC, nD, nE, nF]
    refine held_one 4 (by kernel_rfl) rfl (by kernel_rfl) (fun K hK => ?_)
    go_simp
    refine ((HC _ (HW.out.turn VD.out)).out).mono ?_
    rintro e w1 ⟨rfl, t1⟩
    have V1 := Lib.hid (VD.out.trans t1)
    have E1 := Lib.hid (ED.out.turn t1)
    clear t1
    refine hK _ _ E1.out ?_
    clear hK K
    try simp only [Act.put, nA, nB, nC, nD, nE, nF]
    refine held_take 5 ?_ rfl (by kernel_rfl) (by kernel_rfl) (by kernel_rfl) (fun _ _ _ h => h) (Or.inl ⟨by kernel_rfl, ?_⟩) E1.out ?_
    rotate_left 1
    · intro u hu; obtain ⟨y0, y1, y2, y3, y4, y5, y6, y7, y8⟩ := evCells hu; go_simp; first | done | with_reducible rfl
    try simp only [Act.put, nA, nB, nC, nD, nE, nF]
    refine held_take 6 undef rfl (by kernel_rfl) (by kernel_rfl) (by kernel_rfl) (fun _ _ _ h => h) (Or.inr ⟨by kernel_rfl, rfl⟩) E1.out ?_
    try simp only [Act.put, nA, nB, nC, nD, nE, nF]
    refine held_take 7 undef rfl (by kernel_rfl) (by kernel_rfl) (by kernel_rfl) (fun _ _ _ h => h) (Or.inr ⟨by kernel_rfl, rfl⟩) E1.out ?_
    try simp only [Act.put, nA, nB, nC, nD, nE, nF]
    refine held_take 8 undef rfl (by kernel_rfl) (by kernel_rfl) (by kernel_rfl) (fun _ _ _ h => h) (Or.inr ⟨by kernel_rfl, rfl⟩) E1.out ?_
    try simp only [Act.put, nA, nB, nC, nD, nE, nF]
    refine held_take 9 undef rfl (by kernel_rfl) (by kernel_rfl) (by kernel_rfl) (fun _ _ _ h => h) (Or.inr ⟨by kernel_rfl, rfl⟩) E1.out ?_
    try simp only [Act.put, nA, nB, nC, nD, nE, nF]
    refine held_take 10 undef rfl (by kernel_rfl) (by kernel_rfl) (by kernel_rfl) (fun _ _ _ h => h) (Or.inr ⟨by kernel_rfl, rfl⟩) E1.out ?_
    try simp only [Act.put, nA, nB, nC, nD, nE, nF]
    refine held_take 11 undef rfl (by kernel_rfl) (by kernel_rfl) (by kernel_rfl) (fun _ _ _ h => h) (Or.inr ⟨by kernel_rfl, rfl⟩) E1.out ?_
    try simp only [Act.put, nA, nB, nC, nD, nE, nF]
    refine held_take 12 undef rfl (by kernel_rfl) (by kernel_rfl) (by kernel_rfl) (fun _ _ _ h => h) (Or.inr ⟨by kernel_rfl, rfl⟩) E1.out ?_
    try simp only [Act.put, nA, nB, nC, nD, nE, nF]
    refine held_take 13 undef rfl (by kernel_rfl) (by kernel_rfl) (by kernel_rfl) (fun _ _ _ h => h) (Or.inr ⟨by kernel_rfl, rfl⟩) E1.out ?_
    try simp only [Act.put, nA, nB, nC, nD, nE, nF]
    refine held_take 14 undef rfl (by kernel_rfl) (by kernel_rfl) (by kernel_rfl) (fun _ _ _ h => h) (Or.inr ⟨by kernel_rfl, rfl⟩) E1.out ?_
    try simp only [Act.put, nA, nB, nC, nD, nE, nF]
    refine held_take 15 undef rfl (by kernel_rfl) (by kernel_rfl) (by kernel_rfl) (fun _ _ _ h => h) (Or.inr ⟨by kernel_rfl, rfl⟩) E1.out ?_
    try simp only [Act.put, nA, nB, nC, nD, nE, nF]
    refine held_take 16 ?_ rfl (by kernel_rfl) (by kernel_rfl) (by kernel_rfl) (fun _ _ _ h => h) (Or.inl ⟨by kernel_rfl, ?_⟩) E1.out ?_
    rotate_left 1
    · intro u hu; obtain ⟨y0, y1, y2, y3, y4, y5, y6, y7, y8⟩ := evCells hu; go_simp; first | done | with_reducible rfl
    try simp only [Act.put, nA, nB, nC, nD, nE, nF]
    refine held_one 17 (by kernel_rfl) rfl (by kernel_rfl) (fun K hK => ?_)
    go_simp
    refine (need_no _).mono ?_
    rintro e wn ⟨rfl, rfl⟩
    exact ⟨rfl, rfl, V1.out⟩
  | true =>
    by_cases hpa : parentL E.chan = E.actor
    · rw [if_pos ⟨rfl, hpa⟩]
      rw [decide_eq_true hpa] at hq
      clear hc hP hpa
      go_enter Tryz.func94, Tryz.ntmps94
      go_upto_region 1 with (fail)
      refine held_begin (fun u => EvAt u B E) (by kernel_rfl) ?_
      generalize hwd : World.drew w = wd
      have VD : Hid (Turn Nn w wd) := Lib.hid (by rw [← hwd]; exact (Turn.refl Nn w).drew)
      have ED : Hid (EvAt wd B E) := Lib.hid (by rw [← hwd]; exact HE.out)
      clear hwd
      refine held_take 0 ?_ rfl (by kernel_rfl) (by kernel_rfl) (by kernel_rfl) (fun _ _ _ h => h) (Or.inl ⟨by kernel_rfl, ?_⟩) ED.out ?_
      rotate_left 1
      · intro u hu; obtain ⟨y0, y1, y2, y3, y4, y5, y6, y7, y8⟩ := evCells hu; go_simp; first | done | with_reducible rfl
      try simp only [Act.put, nA, nB, nC, nD, nE, nF]
      refine held_take 1 ?_ rfl (by kernel_rfl) (by kernel_rfl) (by kernel_rfl) (fun _ _ _ h => h) (Or.inl ⟨by kernel_rfl, ?_⟩) ED.out ?_
      rotate_left 1
      · intro u hu; obtain ⟨y0, y1, y2, y3, y4, y5, y6, y7, y8⟩ := evCells hu; go_simp; first | done | with_reducible rfl
      try simp only [Act.put, nA, nB, nC, nD, nE, nF]
      refine held_take 2 ?_ rfl (by kernel_rfl) (by kernel_rfl) (by kernel_rfl) (fun _ _ _ h => h) (Or.inl ⟨by kernel_rfl, ?_⟩) ED.out ?_
      rotate_left 1
      · intro u hu; obtain ⟨y0, y1, y2, y3, y4, y5, y6, y7, y8⟩ := evCells hu; go_simp; first | done | with_reducible rfl
      try simp only [Act.put, nA, nB, nC, nD, nE, nF]
      refine held_take 3 ?_ rfl (by kernel_rfl) (by kernel_rfl) (by kernel_rfl) (fun _ _ _ h => h) (Or.inl ⟨by kernel_rfl, ?_⟩) ED.out ?_
      rotate_left 1
      · intro u hu; obtain ⟨y0, y1, y2, y3, y4, y5, y6, y7, y8⟩ := evCells hu; go_simp; first | done | with_reducible rfl
      try simp only [Act.put, nA, nB, nC, nD, nE, nF]
      refine held_one 4 (by kernel_rfl) rfl (by kernel_rfl) (fun K hK => ?_)
      go_simp
      refine ((HC _ (HW.out.turn VD.out)).out).mono ?_
      rintro e w1 ⟨rfl, t1⟩
      have V1 := Lib.hid (VD.out.trans t1)
      have E1 := Lib.hid (ED.out.turn t1)
      clear t1
      refine hK _ _ E1.out ?_
      clear hK K
      try simp only [Act.put, nA, nB, nC, nD, nE, nF]
      refine held_take 5 ?_ rfl (by kernel_rfl) (by kernel_rfl) (by kernel_rfl) (fun _ _ _ h => h) (Or.inl ⟨by kernel_rfl, ?_⟩) E1.out ?_
      rotate_left 1
      · intro u hu; obtain ⟨y0, y1, y2, y3, y4, y5, y6, y7, y8⟩ := evCells hu; go_simp; first | done | with_reducible rfl
      try simp only [Act.put, nA, nB, nC, nD, nE, nF]
      refine held_take 6 ?_ rfl (by kernel_rfl) (by kernel_rfl) (by kernel_rfl) (fun _ _ _ h => h) (Or.inl ⟨by kernel_rfl, ?_⟩) E1.out ?_
      rotate_left 1
      · intro u hu; obtain ⟨y0, y1, y2, y3, y4, y5, y6, y7, y8⟩ := evCells hu; go_simp; first | done | with_reducible rfl
      try simp only [Act.put, nA, nB, nC, nD, nE, nF]
      refine held_take 7 ?_ rfl (by kernel_rfl) (by kernel_rfl) (by kernel_rfl) (fun _ _ _ h => h) (Or.inl ⟨by kernel_rfl, ?_⟩) E1.out ?_
      rotate_left 1
      · intro u hu; obtain ⟨y0, y1, y2, y3, y4, y5, y6, y7, y8⟩ := evCells hu; go_simp; first | done | with_reducible rfl
      try simp only [Act.put, nA, nB, nC, nD, nE, nF]
      refine held_take 8 ?_ rfl (by kernel_rfl) (by kernel_rfl) (by kernel_rfl) (fun _ _ _ h => h) (Or.inl ⟨by kernel_rfl, ?_⟩) E1.out ?_
      rotate_left 1
      · intro u hu; obtain ⟨y0, y1, y2, y3, y4, y5, y6, y7, y8⟩ := evCells hu; go_simp; first | done | with_reducible rfl
      try simp only [Act.put, nA, nB, nC, nD, nE, nF]
      refine held_take 9 ?_ rfl (by kernel_rfl) (by kernel_rfl) (by kernel_rfl) (fun _ _ _ h => h) (Or.inl ⟨by kernel_rfl, ?_⟩) E1.out ?_
      rotate_left 1
      · intro u hu; obtain ⟨y0, y1, y2, y3, y4, y5, y6, y7, y8⟩ := evCells hu; go_simp; first | done | with_reducible rfl
      try simp only [Act.put, nA, nB, nC, nD, nE, nF]
      refine held_take 11 ?_ rfl (by kernel_rfl) (by kernel_rfl) (by kernel_rfl) (fun _ _ _ h => h) (Or.inl ⟨by kernel_rfl, ?_⟩) E1.out ?_
      rotate_left 1
      · intro u hu; obtain ⟨y0, y1, y2, y3, y4, y5, y6, y7, y8⟩ := evCells hu; go_simp; first | done | with_reducible rfl
      try simp only [Act.put, nA, nB, nC, nD, nE, nF]
      refine held_take 12 ?_ rfl (by kernel_rfl) (by kernel_rfl) (by kernel_rfl) (fun _ _ _ h => h) (Or.inl ⟨by kernel_rfl, ?_⟩) E1.out ?_
      rotate_left 1
      · intro u hu; obtain ⟨y0, y1, y2, y3, y4, y5, y6, y7, y8⟩ := evCells hu; go_simp; first | done | with_reducible rfl
      try simp only [Act.put, nA, nB, nC, nD, nE, nF]
      refine held_take 13 ?_ rfl (by kernel_rfl) (by kernel_rfl) (by kernel_rfl) (fun _ _ _ h => h) (Or.inl ⟨by kernel_rfl, ?_⟩) E1.out ?_
      rotate_left 1
      · intro u hu; obtain ⟨y0, y1, y2, y3, y4, y5, y6, y7, y8⟩ := evCells hu; go_simp; first | done | with_reducible rfl
      try simp only [Act.put, nA, nB, nC, nD, nE, nF]
      refine held_take 14 ?_ rfl (by kernel_rfl) (by kernel_rfl) (by kernel_rfl) (fun _ _ _ h => h) (Or.inl ⟨by kernel_rfl, ?_⟩) E1.out ?_
      rotate_left 1
      · intro u hu; obtain ⟨y0, y1, y2, y3, y4, y5, y6, y7, y8⟩ := evCells hu; go_simp; first | done | with_reducible rfl
      try simp only [Act.put, nA, nB, nC, nD, nE, nF]
      refine held_one 10 (by kernel_rfl) rfl (by kernel_rfl) (fun K hK => ?_)
      go_simp
      refine ((HP _ (HW.out.turn V1.out)).out).mono ?_
      rintro e w2 ⟨rfl, t2⟩
      have V2 := Lib.hid (V1.out.trans t2)
      have E2 := Lib.hid (E1.out.turn t2)
      clear t2
      refine hK _ _ E2.out ?_
      clear hK K
      try simp only [Act.put, nA, nB, nC, nD, nE, nF]
      refine held_take 15 ?_ rfl (by kernel_rfl) (by kernel_rfl) (by kernel_rfl) (fun _ _ _ h => h) (Or.inl ⟨by kernel_rfl, ?_⟩) E2.out ?_
      rotate_left 1
      · intro u hu; obtain ⟨y0, y1, y2, y3, y4, y5, y6, y7, y8⟩ := evCells hu; go_simp; first | done | with_reducible rfl
      try simp only [Act.put, nA, nB, nC, nD, nE, nF]
      refine held_take 16 ?_ rfl (by kernel_rfl) (by kernel_rfl) (by kernel_rfl) (fun _ _ _ h => h) (Or.inl ⟨by kernel_rfl, ?_⟩) E2.out ?_
      rotate_left 1
      · intro u hu; obtain ⟨y0, y1, y2, y3, y4, y5, y6, y7, y8⟩ := evCells hu; go_simp; first | done | with_reducible rfl
      try simp only [Act.put, nA, nB, nC, nD, nE, nF]
      refine held_one 17 (by kernel_rfl) rfl (by kernel_rfl) (fun K hK => ?_)
      go_simp
      refine (need_yes _).mono ?_
      rintro e wn ⟨rfl, rfl⟩
      refine hK _ _ E2.out ?_
      clear hK K
      try simp only [Act.put, nA, nB, nC, nD, nE, nF]
      refine wpAnyH_done (by kernel_rfl) ?_ _
      obtain ⟨y0, y1, y2, y3, y4, y5, y6, y7, y8⟩ := evCells E2.out
      go_wp2_with fail
      go_ret
      exact ⟨rfl, V2.out⟩
    · rw [if_neg (fun h => hpa h.2)]
      rw [decide_eq_false hpa] at hq
      clear hc hP hpa
      go_enter Tryz.func94, Tryz.ntmps94
      go_upto_region 1 with (fail)
      refine held_begin (fun u => EvAt u B E) (by kernel_rfl) ?_
      generalize hwd : World.drew w = wd
      have VD : Hid (Turn Nn w wd) := Lib.hid (by rw [← hwd]; exact (Turn.refl Nn w).drew)
      have ED : Hid (EvAt wd B E) := Lib.hid (by rw [← hwd]; exact HE.out)
      clear hwd
      refine held_take 0 ?_ rfl (by kernel_rfl) (by kernel_rfl) (by kernel_rfl) (fun _ _ _ h => h) (Or.inl ⟨by kernel_rfl, ?_⟩) ED.out ?_
      rotate_left 1
      · intro u hu; obtain ⟨y0, y1, y2, y3, y4, y5, y6, y7, y8⟩ := evCells hu; go_simp; first | done | with_reducible rfl
      try simp only [Act.put, nA, nB, nC, nD, nE, nF]
      refine held_take 1 ?_ rfl (by kernel_rfl) (by kernel_rfl) (by kernel_rfl) (fun _ _ _ h => h) (Or.inl ⟨by kernel_rfl, ?_⟩) ED.out ?_
      rotate_left 1
      · intro u hu; obtain ⟨y0, y1, y2, y3, y4, y5, y6, y7, y8⟩ := evCells hu; go_simp; first | done | with_reducible rfl
      try simp only [Act.put, nA, nB, nC, nD, nE, nF]
      refine held_take 2 ?_ rfl (by kernel_rfl) (by kernel_rfl) (by kernel_rfl) (fun _ _ _ h => h) (Or.inl ⟨by kernel_rfl, ?_⟩) ED.out ?_
      rotate_left 1
      · intro u hu; obtain ⟨y0, y1, y2, y3, y4, y5, y6, y7, y8⟩ := evCells hu; go_simp; first | done | with_reducible rfl
      try simp only [Act.put, nA, nB, nC, nD, nE, nF]
      refine held_take 3 ?_ rfl (by kernel_rfl) (by kernel_rfl) (by kernel_rfl) (fun _ _ _ h => h) (Or.inl ⟨by kernel_rfl, ?_⟩) ED.out ?_
      rotate_left 1
      · intro u hu; obtain ⟨y0, y1, y2, y3, y4, y5, y6, y7, y8⟩ := evCells hu; go_simp; first | done | with_reducible rfl
      try simp only [Act.put, nA, nB, nC, nD, nE, nF]
      refine held_one 4 (by kernel_rfl) rfl (by kernel_rfl) (fun K hK => ?_)
      go_simp
      refine ((HC _ (HW.out.turn VD.out)).out).mono ?_
      rintro e w1 ⟨rfl, t1⟩
      have V1 := Lib.hid (VD.out.trans t1)
      have E1 := Lib.hid (ED.out.turn t1)
      clear t1
      refine hK _ _ E1.out ?_
      clear hK K
      try simp only [Act.put, nA, nB, nC, nD, nE, nF]
      refine held_take 5 ?_ rfl (by kernel_rfl) (by kernel_rfl) (by kernel_rfl) (fun _ _ _ h => h) (Or.inl ⟨by kernel_rfl, ?_⟩) E1.out ?_
      rotate_left 1
      · intro u hu; obtain ⟨y0, y1, y2, y3, y4, y5, y6, y7, y8⟩ := evCells hu; go_simp; first | done | with_reducible rfl
      try simp only [Act.put, nA, nB, nC, nD, nE, nF]
      refine held_take 6 ?_ rfl (by kernel_rfl) (by kernel_rfl) (by kernel_rfl) (fun _ _ _ h => h) (Or.inl ⟨by kernel_rfl, ?_⟩) E1.out ?_
      rotate_left 1
      · intro u hu; obtain ⟨y0, y1, y2, y3, y4, y5, y6, y7, y8⟩ := evCells hu; go_simp; first | done | with_reducible rfl
      try simp only [Act.put, nA, nB, nC, nD, nE, nF]
      refine held_take 7 ?_ rfl (by kernel_rfl) (by kernel_rfl) (by kernel_rfl) (fun _ _ _ h => h) (Or.inl ⟨by kernel_rfl, ?_⟩) E1.out ?_
      rotate_left 1
      · intro u hu; obtain ⟨y0, y1, y2, y3, y4, y5, y6, y7, y8⟩ := evCells hu; go_simp; first | done | with_reducible rfl
      try simp only [Act.put, nA, nB, nC, nD, nE, nF]
      refine held_take 8 ?_ rfl (by kernel_rfl) (by kernel_rfl) (by kernel_rfl) (fun _ _ _ h => h) (Or.inl ⟨by kernel_rfl, ?_⟩) E1.out ?_
      rotate_left 1
      · intro u hu; obtain ⟨y0, y1, y2, y3, y4, y5, y6, y7, y8⟩ := evCells hu; go_simp; first | done | with_reducible rfl
      try simp only [Act.put, nA, nB, nC, nD, nE, nF]
      refine held_take 9 ?_ rfl (by kernel_rfl) (by kernel_rfl) (by kernel_rfl) (fun _ _ _ h => h) (Or.inl ⟨by kernel_rfl, ?_⟩) E1.out ?_
      rotate_left 1
      · intro u hu; obtain ⟨y0, y1, y2, y3, y4, y5, y6, y7, y8⟩ := evCells hu; go_simp; first | done | with_reducible rfl
      try simp only [Act.put, nA, nB, nC, nD, nE, nF]
      refine held_take 11 ?_ rfl (by kernel_rfl) (by kernel_rfl) (by kernel_rfl) (fun _ _ _ h => h) (Or.inl ⟨by kernel_rfl, ?_⟩) E1.out ?_
      rotate_left 1
      · intro u hu; obtain ⟨y0, y1, y2, y3, y4, y5, y6, y7, y8⟩ := evCells hu; go_simp; first | done | with_reducible rfl
      try simp only [Act.put, nA, nB, nC, nD, nE, nF]
      refine held_take 12 ?_ rfl (by kernel_rfl) (by kernel_rfl) (by kernel_rfl) (fun _ _ _ h => h) (Or.inl ⟨by kernel_rfl, ?_⟩) E1.out ?_
      rotate_left 1
      · intro u hu; obtain ⟨y0, y1, y2, y3, y4, y5, y6, y7, y8⟩ := evCells hu; go_simp; first | done | with_reducible rfl
      try simp only [Act.put, nA, nB, nC, nD, nE, nF]
      refine held_take 13 ?_ rfl (by kernel_rfl) (by kernel_rfl) (by kernel_rfl) (fun _ _ _ h => h) (Or.inl ⟨by kernel_rfl, ?_⟩) E1.out ?_
      rotate_left 1
      · intro u hu; obtain ⟨y0, y1, y2, y3, y4, y5, y6, y7, y8⟩ := evCells hu; go_simp; first | done | with_reducible rfl
      try simp only [Act.put, nA, nB, nC, nD, nE, nF]
      refine held_take 14 ?_ rfl (by kernel_rfl) (by kernel_rfl) (by kernel_rfl) (fun _ _ _ h => h) (Or.inl ⟨by kernel_rfl, ?_⟩) E1.out ?_
      rotate_left 1
      · intro u hu; obtain ⟨y0, y1, y2, y3, y4, y5, y6, y7, y8⟩ := evCells hu; go_simp; first | done | with_reducible rfl
      try simp only [Act.put, nA, nB, nC, nD, nE, nF]
      refine held_one 10 (by kernel_rfl) rfl (by kernel_rfl) (fun K hK => ?_)
      go_simp
      refine ((HP _ (HW.out.turn V1.out)).out).mono ?_
      rintro e w2 ⟨rfl, t2⟩
      have V2 := Lib.hid (V1.out.trans t2)
      have E2 := Lib.hid (E1.out.turn t2)
      clear t2
      refine hK _ _ E2.out ?_
      clear hK K
      try simp only [Act.put, nA, nB, nC, nD, nE, nF]
      refine held_take 15 ?_ rfl (by kernel_rfl) (by kernel_rfl) (by kernel_rfl) (fun _ _ _ h => h) (Or.inl ⟨by kernel_rfl, ?_⟩) E2.out ?_
      rotate_left 1
      · intro u hu; obtain ⟨y0, y1, y2, y3, y4, y5, y6, y7, y8⟩ := evCells hu; go_simp; first | done | with_reducible rfl
      try simp only [Act.put, nA, nB, nC, nD, nE, nF]
      refine held_take 16 ?_ rfl (by kernel_rfl) (by kernel_rfl) (by kernel_rfl) (fun _ _ _ h => h) (Or.inl ⟨by kernel_rfl, ?_⟩) E2.out ?_
      rotate_left 1
      · intro u hu; obtain ⟨y0, y1, y2, y3, y4, y5, y6, y7, y8⟩ := evCells hu; go_simp; first | done | with_reducible rfl
      try simp only [Act.put, nA, nB, nC, nD, nE, nF]
      refine held_one 17 (by kernel_rfl) rfl (by kernel_rfl) (fun K hK => ?_)
      go_simp
      refine (need_no _).mono ?_
      rintro e wn ⟨rfl, rfl⟩
      exact ⟨rfl, rfl, V2.out⟩
set_option maxRecDepth 100000 in
set_option maxHeartbeats 8000000 in
theorem told_child {E : EventD} (hs : ESmall E) {B : Nat} {w : World} (hE : EvAt w B E) (hw : Laid w) : Calls Tryz.prog 96 #[.pointer (some ⟨B, 0, none⟩)] w (TellP w (tellF .child E)) := by
  have HW := Lib.hid hw
  have HE := Lib.hid hE
  have HC := fun w (h : Laid w) => Lib.hid (actor_any (l := E.name) (by have := hs.name; omega) h)
  have HP := fun w (h : Laid w) => Lib.hid (parent_any (l := E.name) (by have := hs.name; omega) h)
  have ht : tellF .child E = if actorL E.name = true ∧ parentL E.name = E.actor then some E.name else none := rfl
  rw [ht]
  have hq : ((BT (parentL E.name)).toList == (BT E.actor).toList) = decide (parentL E.name = E.actor) := by
    rw [BT_toList, BT_toList, Bool.eq_iff_iff, beq_iff_eq, decide_eq_true_eq]
  clear hw hE ht
  obtain ⟨c, hc⟩ : ∃ c, actorL E.name = c := ⟨_, rfl⟩
  obtain ⟨P, hP⟩ : ∃ P, BT (parentL E.name) = P := ⟨_, rfl⟩
  simp only [hc] at HC ⊢
  simp only [hP] at HP hq
  cases c with
  | false =>
    rw [if_neg (by rintro ⟨h, _⟩; cases h)]
    clear hc hP hq HP
    go_enter Tryz.func96, Tryz.ntmps96
    go_upto_region 1 with (fail)
    refine held_begin (fun u => EvAt u B E) (by kernel_rfl) ?_
    generalize hwd : World.drew w = wd
    have VD : Hid (Turn Nn w wd) := Lib.hid (by rw [← hwd]; exact (Turn.refl Nn w).drew)
    have ED : Hid (EvAt wd B E) := Lib.hid (by rw [← hwd]; exact HE.out)
    clear hwd
    refine held_take 0 ?_ rfl (by kernel_rfl) (by kernel_rfl) (by kernel_rfl) (fun _ _ _ h => h) (Or.inl ⟨by kernel_rfl, ?_⟩) ED.out ?_
    rotate_left 1
    · intro u hu; obtain ⟨y0, y1, y2, y3, y4, y5, y6, y7, y8⟩ := evCells hu; go_simp; first | done | with_reducible rfl
    try simp only [Act.put, nA, nB, nC, nD, nE, nF]
    refine held_take 1 ?_ rfl (by kernel_rfl) (by kernel_rfl) (by kernel_rfl) (fun _ _ _ h => h) (Or.inl ⟨by kernel_rfl, ?_⟩) ED.out ?_
    rotate_left 1
    · intro u hu; obtain ⟨y0, y1, y2, y3, y4, y5, y6, y7, y8⟩ := evCells hu; go_simp; first | done | with_reducible rfl
    try simp only [Act.put, nA, nB, nC, nD, nE, nF]
    refine held_take 2 ?_ rfl (by kernel_rfl) (by kernel_rfl) (by kernel_rfl) (fun _ _ _ h => h) (Or.inl ⟨by kernel_rfl, ?_⟩) ED.out ?_
    rotate_left 1
    · intro u hu; obtain ⟨y0, y1, y2, y3, y4, y5, y6, y7, y8⟩ := evCells hu; go_simp; first | done | with_reducible rfl
    try simp only [Act.put, nA, nB, nC, nD, nE, nF]
    refine held_take 3 ?_ rfl (by kernel_rfl) (by kernel_rfl) (by kernel_rfl) (fun _ _ _ h => h) (Or.inl ⟨by kernel_rfl, ?_⟩) ED.out ?_
    rotate_left 1
    · intro u hu; obtain ⟨y0, y1, y2, y3, y4, y5, y6, y7, y8⟩ := evCells hu; go_simp; first | done | with_reducible rfl
    try simp only [Act.put, nA, nB, nC, nD, nE, nF]
    refine held_one 4 (by kernel_rfl) rfl (by kernel_rfl) (fun K hK => ?_)
    go_simp
    refine ((HC _ (HW.out.turn VD.out)).out).mono ?_
    rintro e w1 ⟨rfl, t1⟩
    have V1 := Lib.hid (VD.out.trans t1)
    have E1 := Lib.hid (ED.out.turn t1)
    clear t1
    refine hK _ _ E1.out ?_
    clear hK K
    try simp only [Act.put, nA, nB, nC, nD, nE, nF]
    refine held_take 5 ?_ rfl (by kernel_rfl) (by kernel_rfl) (by kernel_rfl) (fun _ _ _ h => h) (Or.inl ⟨by kernel_rfl, ?_⟩) E1.out ?_
    rotate_left 1
    · intro u hu; obtain ⟨y0, y1, y2, y3, y4, y5, y6, y7, y8⟩ := evCells hu; go_simp; first | done | with_reducible rfl
    try simp only [Act.put, nA, nB, nC, nD, nE, nF]
    refine held_take 6 undef rfl (by kernel_rfl) (by kernel_rfl) (by kernel_rfl) (fun _ _ _ h => h) (Or.inr ⟨by kernel_rfl, rfl⟩) E1.out ?_
    try simp only [Act.put, nA, nB, nC, nD, nE, nF]
    refine held_take 7 undef rfl (by kernel_rfl) (by kernel_rfl) (by kernel_rfl) (fun _ _ _ h => h) (Or.inr ⟨by kernel_rfl, rfl⟩) E1.out ?_
    try simp only [Act.put, nA, nB, nC, nD, nE, nF]
    refine held_take 8 undef rfl (by kernel_rfl) (by kernel_rfl) (by kernel_rfl) (fun _ _ _ h => h) (Or.inr ⟨by kernel_rfl, rfl⟩) E1.out ?_
    try simp only [Act.put, nA, nB, nC, nD, nE, nF]
    refine held_take 9 undef rfl (by kernel_rfl) (by kernel_rfl) (by kernel_rfl) (fun _ _ _ h => h) (Or.inr ⟨by kernel_rfl, rfl⟩) E1.out ?_
    try simp only [Act.put, nA, nB, nC, nD, nE, nF]
    refine held_take 10 undef rfl (by kernel_rfl) (by kernel_rfl) (by kernel_rfl) (fun _ _ _ h => h) (Or.inr ⟨by kernel_rfl, rfl⟩) E1.out ?_
    try simp only [Act.put, nA, nB, nC, nD, nE, nF]
    refine held_take 11 undef rfl (by kernel_rfl) (by kernel_rfl) (by kernel_rfl) (fun _ _ _ h => h) (Or.inr ⟨by kernel_rfl, rfl⟩) E1.out ?_
    try simp only [Act.put, nA, nB, nC, nD, nE, nF]
    refine held_take 12 undef rfl (by kernel_rfl) (by kernel_rfl) (by kernel_rfl) (fun _ _ _ h => h) (Or.inr ⟨by kernel_rfl, rfl⟩) E1.out ?_
    try simp only [Act.put, nA, nB, nC, nD, nE, nF]
    refine held_take 13 undef rfl (by kernel_rfl) (by kernel_rfl) (by kernel_rfl) (fun _ _ _ h => h) (Or.inr ⟨by kernel_rfl, rfl⟩) E1.out ?_
    try simp only [Act.put, nA, nB, nC, nD, nE, nF]
    refine held_take 14 undef rfl (by kernel_rfl) (by kernel_rfl) (by kernel_rfl) (fun _ _ _ h => h) (Or.inr ⟨by kernel_rfl, rfl⟩) E1.out ?_
    try simp only [Act.put, nA, nB, nC, nD, nE, nF]
    refine held_take 15 undef rfl (by kernel_rfl) (by kernel_rfl) (by kernel_rfl) (fun _ _ _ h => h) (Or.inr ⟨by kernel_rfl, rfl⟩) E1.out ?_
    try simp only [Act.put, nA, nB, nC, nD, nE, nF]
    refine held_take 16 ?_ rfl (by kernel_rfl) (by kernel_rfl) (by kernel_rfl) (fun _ _ _ h => h) (Or.inl ⟨by kernel_rfl, ?_⟩) E1.out ?_
    rotate_left 1
    · intro u hu; obtain ⟨y0, y1, y2, y3, y4, y5, y6, y7, y8⟩ := evCells hu; go_simp; first | done | with_reducible rfl
    try simp only [Act.put, nA, nB, nC, nD, nE, nF]
    refine held_one 17 (by kernel_rfl) rfl (by kernel_rfl) (fun K hK => ?_)
    go_simp
    refine (need_no _).mono ?_
    rintro e wn ⟨rfl, rfl⟩
    exact ⟨rfl, rfl, V1.out⟩
  | true =>
    by_cases hpa : parentL E.name = E.actor
    · rw [if_pos ⟨rfl, hpa⟩]
      rw [decide_eq_true hpa] at hq
      clear hc hP hpa
      go_enter Tryz.func96, Tryz.ntmps96
      go_upto_region 1 with (fail)
      refine held_begin (fun u => EvAt u B E) (by kernel_rfl) ?_
      generalize hwd : World.drew w = wd
      have VD : Hid (Turn Nn w wd) := Lib.hid (by rw [← hwd]; exact (Turn.refl Nn w).drew)
      have ED : Hid (EvAt wd B E) := Lib.hid (by rw [← hwd]; exact HE.out)
      clear hwd
      refine held_take 0 ?_ rfl (by kernel_rfl) (by kernel_rfl) (by kernel_rfl) (fun _ _ _ h => h) (Or.inl ⟨by kernel_rfl, ?_⟩) ED.out ?_
      rotate_left 1
      · intro u hu; obtain ⟨y0, y1, y2, y3, y4, y5, y6, y7, y8⟩ := evCells hu; go_simp; first | done | with_reducible rfl
      try simp only [Act.put, nA, nB, nC, nD, nE, nF]
      refine held_take 1 ?_ rfl (by kernel_rfl) (by kernel_rfl) (by kernel_rfl) (fun _ _ _ h => h) (Or.inl ⟨by kernel_rfl, ?_⟩) ED.out ?_
      rotate_left 1
      · intro u hu; obtain ⟨y0, y1, y2, y3, y4, y5, y6, y7, y8⟩ := evCells hu; go_simp; first | done | with_reducible rfl
      try simp only [Act.put, nA, nB, nC, nD, nE, nF]
      refine held_take 2 ?_ rfl (by kernel_rfl) (by kernel_rfl) (by kernel_rfl) (fun _ _ _ h => h) (Or.inl ⟨by kernel_rfl, ?_⟩) ED.out ?_
      rotate_left 1
      · intro u hu; obtain ⟨y0, y1, y2, y3, y4, y5, y6, y7, y8⟩ := evCells hu; go_simp; first | done | with_reducible rfl
      try simp only [Act.put, nA, nB, nC, nD, nE, nF]
      refine held_take 3 ?_ rfl (by kernel_rfl) (by kernel_rfl) (by kernel_rfl) (fun _ _ _ h => h) (Or.inl ⟨by kernel_rfl, ?_⟩) ED.out ?_
      rotate_left 1
      · intro u hu; obtain ⟨y0, y1, y2, y3, y4, y5, y6, y7, y8⟩ := evCells hu; go_simp; first | done | with_reducible rfl
      try simp only [Act.put, nA, nB, nC, nD, nE, nF]
      refine held_one 4 (by kernel_rfl) rfl (by kernel_rfl) (fun K hK => ?_)
      go_simp
      refine ((HC _ (HW.out.turn VD.out)).out).mono ?_
      rintro e w1 ⟨rfl, t1⟩
      have V1 := Lib.hid (VD.out.trans t1)
      have E1 := Lib.hid (ED.out.turn t1)
      clear t1
      refine hK _ _ E1.out ?_
      clear hK K
      try simp only [Act.put, nA, nB, nC, nD, nE, nF]
      refine held_take 5 ?_ rfl (by kernel_rfl) (by kernel_rfl) (by kernel_rfl) (fun _ _ _ h => h) (Or.inl ⟨by kernel_rfl, ?_⟩) E1.out ?_
      rotate_left 1
      · intro u hu; obtain ⟨y0, y1, y2, y3, y4, y5, y6, y7, y8⟩ := evCells hu; go_simp; first | done | with_reducible rfl
      try simp only [Act.put, nA, nB, nC, nD, nE, nF]
      refine held_take 6 ?_ rfl (by kernel_rfl) (by kernel_rfl) (by kernel_rfl) (fun _ _ _ h => h) (Or.inl ⟨by kernel_rfl, ?_⟩) E1.out ?_
      rotate_left 1
      · intro u hu; obtain ⟨y0, y1, y2, y3, y4, y5, y6, y7, y8⟩ := evCells hu; go_simp; first | done | with_reducible rfl
      try simp only [Act.put, nA, nB, nC, nD, nE, nF]
      refine held_take 7 ?_ rfl (by kernel_rfl) (by kernel_rfl) (by kernel_rfl) (fun _ _ _ h => h) (Or.inl ⟨by kernel_rfl, ?_⟩) E1.out ?_
      rotate_left 1
      · intro u hu; obtain ⟨y0, y1, y2, y3, y4, y5, y6, y7, y8⟩ := evCells hu; go_simp; first | done | with_reducible rfl
      try simp only [Act.put, nA, nB, nC, nD, nE, nF]
      refine held_take 8 ?_ rfl (by kernel_rfl) (by kernel_rfl) (by kernel_rfl) (fun _ _ _ h => h) (Or.inl ⟨by kernel_rfl, ?_⟩) E1.out ?_
      rotate_left 1
      · intro u hu; obtain ⟨y0, y1, y2, y3, y4, y5, y6, y7, y8⟩ := evCells hu; go_simp; first | done | with_reducible rfl
      try simp only [Act.put, nA, nB, nC, nD, nE, nF]
      refine held_take 9 ?_ rfl (by kernel_rfl) (by kernel_rfl) (by kernel_rfl) (fun _ _ _ h => h) (Or.inl ⟨by kernel_rfl, ?_⟩) E1.out ?_
      rotate_left 1
      · intro u hu; obtain ⟨y0, y1, y2, y3, y4, y5, y6, y7, y8⟩ := evCells hu; go_simp; first | done | with_reducible rfl
      try simp only [Act.put, nA, nB, nC, nD, nE, nF]
      refine held_take 11 ?_ rfl (by kernel_rfl) (by kernel_rfl) (by kernel_rfl) (fun _ _ _ h => h) (Or.inl ⟨by kernel_rfl, ?_⟩) E1.out ?_
      rotate_left 1
      · intro u hu; obtain ⟨y0, y1, y2, y3, y4, y5, y6, y7, y8⟩ := evCells hu; go_simp; first | done | with_reducible rfl
      try simp only [Act.put, nA, nB, nC, nD, nE, nF]
      refine held_take 12 ?_ rfl (by kernel_rfl) (by kernel_rfl) (by kernel_rfl) (fun _ _ _ h => h) (Or.inl ⟨by kernel_rfl, ?_⟩) E1.out ?_
      rotate_left 1
      · intro u hu; obtain ⟨y0, y1, y2, y3, y4, y5, y6, y7, y8⟩ := evCells hu; go_simp; first | done | with_reducible rfl
      try simp only [Act.put, nA, nB, nC, nD, nE, nF]
      refine held_take 13 ?_ rfl (by kernel_rfl) (by kernel_rfl) (by kernel_rfl) (fun _ _ _ h => h) (Or.inl ⟨by kernel_rfl, ?_⟩) E1.out ?_
      rotate_left 1
      · intro u hu; obtain ⟨y0, y1, y2, y3, y4, y5, y6, y7, y8⟩ := evCells hu; go_simp; first | done | with_reducible rfl
      try simp only [Act.put, nA, nB, nC, nD, nE, nF]
      refine held_take 14 ?_ rfl (by kernel_rfl) (by kernel_rfl) (by kernel_rfl) (fun _ _ _ h => h) (Or.inl ⟨by kernel_rfl, ?_⟩) E1.out ?_
      rotate_left 1
      · intro u hu; obtain ⟨y0, y1, y2, y3, y4, y5, y6, y7, y8⟩ := evCells hu; go_simp; first | done | with_reducible rfl
      try simp only [Act.put, nA, nB, nC, nD, nE, nF]
      refine held_one 10 (by kernel_rfl) rfl (by kernel_rfl) (fun K hK => ?_)
      go_simp
      refine ((HP _ (HW.out.turn V1.out)).out).mono ?_
      rintro e w2 ⟨rfl, t2⟩
      have V2 := Lib.hid (V1.out.trans t2)
      have E2 := Lib.hid (E1.out.turn t2)
      clear t2
      refine hK _ _ E2.out ?_
      clear hK K
      try simp only [Act.put, nA, nB, nC, nD, nE, nF]
      refine held_take 15 ?_ rfl (by kernel_rfl) (by kernel_rfl) (by kernel_rfl) (fun _ _ _ h => h) (Or.inl ⟨by kernel_rfl, ?_⟩) E2.out ?_
      rotate_left 1
      · intro u hu; obtain ⟨y0, y1, y2, y3, y4, y5, y6, y7, y8⟩ := evCells hu; go_simp; first | done | with_reducible rfl
      try simp only [Act.put, nA, nB, nC, nD, nE, nF]
      refine held_take 16 ?_ rfl (by kernel_rfl) (by kernel_rfl) (by kernel_rfl) (fun _ _ _ h => h) (Or.inl ⟨by kernel_rfl, ?_⟩) E2.out ?_
      rotate_left 1
      · intro u hu; obtain ⟨y0, y1, y2, y3, y4, y5, y6, y7, y8⟩ := evCells hu; go_simp; first | done | with_reducible rfl
      try simp only [Act.put, nA, nB, nC, nD, nE, nF]
      refine held_one 17 (by kernel_rfl) rfl (by kernel_rfl) (fun K hK => ?_)
      go_simp
      refine (need_yes _).mono ?_
      rintro e wn ⟨rfl, rfl⟩
      refine hK _ _ E2.out ?_
      clear hK K
      try simp only [Act.put, nA, nB, nC, nD, nE, nF]
      refine wpAnyH_done (by kernel_rfl) ?_ _
      obtain ⟨y0, y1, y2, y3, y4, y5, y6, y7, y8⟩ := evCells E2.out
      go_wp2_with fail
      go_ret
      exact ⟨rfl, V2.out⟩
    · rw [if_neg (fun h => hpa h.2)]
      rw [decide_eq_false hpa] at hq
      clear hc hP hpa
      go_enter Tryz.func96, Tryz.ntmps96
      go_upto_region 1 with (fail)
      refine held_begin (fun u => EvAt u B E) (by kernel_rfl) ?_
      generalize hwd : World.drew w = wd
      have VD : Hid (Turn Nn w wd) := Lib.hid (by rw [← hwd]; exact (Turn.refl Nn w).drew)
      have ED : Hid (EvAt wd B E) := Lib.hid (by rw [← hwd]; exact HE.out)
      clear hwd
      refine held_take 0 ?_ rfl (by kernel_rfl) (by kernel_rfl) (by kernel_rfl) (fun _ _ _ h => h) (Or.inl ⟨by kernel_rfl, ?_⟩) ED.out ?_
      rotate_left 1
      · intro u hu; obtain ⟨y0, y1, y2, y3, y4, y5, y6, y7, y8⟩ := evCells hu; go_simp; first | done | with_reducible rfl
      try simp only [Act.put, nA, nB, nC, nD, nE, nF]
      refine held_take 1 ?_ rfl (by kernel_rfl) (by kernel_rfl) (by kernel_rfl) (fun _ _ _ h => h) (Or.inl ⟨by kernel_rfl, ?_⟩) ED.out ?_
      rotate_left 1
      · intro u hu; obtain ⟨y0, y1, y2, y3, y4, y5, y6, y7, y8⟩ := evCells hu; go_simp; first | done | with_reducible rfl
      try simp only [Act.put, nA, nB, nC, nD, nE, nF]
      refine held_take 2 ?_ rfl (by kernel_rfl) (by kernel_rfl) (by kernel_rfl) (fun _ _ _ h => h) (Or.inl ⟨by kernel_rfl, ?_⟩) ED.out ?_
      rotate_left 1
      · intro u hu; obtain ⟨y0, y1, y2, y3, y4, y5, y6, y7, y8⟩ := evCells hu; go_simp; first | done | with_reducible rfl
      try simp only [Act.put, nA, nB, nC, nD, nE, nF]
      refine held_take 3 ?_ rfl (by kernel_rfl) (by kernel_rfl) (by kernel_rfl) (fun _ _ _ h => h) (Or.inl ⟨by kernel_rfl, ?_⟩) ED.out ?_
      rotate_left 1
      · intro u hu; obtain ⟨y0, y1, y2, y3, y4, y5, y6, y7, y8⟩ := evCells hu; go_simp; first | done | with_reducible rfl
      try simp only [Act.put, nA, nB, nC, nD, nE, nF]
      refine held_one 4 (by kernel_rfl) rfl (by kernel_rfl) (fun K hK => ?_)
      go_simp
      refine ((HC _ (HW.out.turn VD.out)).out).mono ?_
      rintro e w1 ⟨rfl, t1⟩
      have V1 := Lib.hid (VD.out.trans t1)
      have E1 := Lib.hid (ED.out.turn t1)
      clear t1
      refine hK _ _ E1.out ?_
      clear hK K
      try simp only [Act.put, nA, nB, nC, nD, nE, nF]
      refine held_take 5 ?_ rfl (by kernel_rfl) (by kernel_rfl) (by kernel_rfl) (fun _ _ _ h => h) (Or.inl ⟨by kernel_rfl, ?_⟩) E1.out ?_
      rotate_left 1
      · intro u hu; obtain ⟨y0, y1, y2, y3, y4, y5, y6, y7, y8⟩ := evCells hu; go_simp; first | done | with_reducible rfl
      try simp only [Act.put, nA, nB, nC, nD, nE, nF]
      refine held_take 6 ?_ rfl (by kernel_rfl) (by kernel_rfl) (by kernel_rfl) (fun _ _ _ h => h) (Or.inl ⟨by kernel_rfl, ?_⟩) E1.out ?_
      rotate_left 1
      · intro u hu; obtain ⟨y0, y1, y2, y3, y4, y5, y6, y7, y8⟩ := evCells hu; go_simp; first | done | with_reducible rfl
      try simp only [Act.put, nA, nB, nC, nD, nE, nF]
      refine held_take 7 ?_ rfl (by kernel_rfl) (by kernel_rfl) (by kernel_rfl) (fun _ _ _ h => h) (Or.inl ⟨by kernel_rfl, ?_⟩) E1.out ?_
      rotate_left 1
      · intro u hu; obtain ⟨y0, y1, y2, y3, y4, y5, y6, y7, y8⟩ := evCells hu; go_simp; first | done | with_reducible rfl
      try simp only [Act.put, nA, nB, nC, nD, nE, nF]
      refine held_take 8 ?_ rfl (by kernel_rfl) (by kernel_rfl) (by kernel_rfl) (fun _ _ _ h => h) (Or.inl ⟨by kernel_rfl, ?_⟩) E1.out ?_
      rotate_left 1
      · intro u hu; obtain ⟨y0, y1, y2, y3, y4, y5, y6, y7, y8⟩ := evCells hu; go_simp; first | done | with_reducible rfl
      try simp only [Act.put, nA, nB, nC, nD, nE, nF]
      refine held_take 9 ?_ rfl (by kernel_rfl) (by kernel_rfl) (by kernel_rfl) (fun _ _ _ h => h) (Or.inl ⟨by kernel_rfl, ?_⟩) E1.out ?_
      rotate_left 1
      · intro u hu; obtain ⟨y0, y1, y2, y3, y4, y5, y6, y7, y8⟩ := evCells hu; go_simp; first | done | with_reducible rfl
      try simp only [Act.put, nA, nB, nC, nD, nE, nF]
      refine held_take 11 ?_ rfl (by kernel_rfl) (by kernel_rfl) (by kernel_rfl) (fun _ _ _ h => h) (Or.inl ⟨by kernel_rfl, ?_⟩) E1.out ?_
      rotate_left 1
      · intro u hu; obtain ⟨y0, y1, y2, y3, y4, y5, y6, y7, y8⟩ := evCells hu; go_simp; first | done | with_reducible rfl
      try simp only [Act.put, nA, nB, nC, nD, nE, nF]
      refine held_take 12 ?_ rfl (by kernel_rfl) (by kernel_rfl) (by kernel_rfl) (fun _ _ _ h => h) (Or.inl ⟨by kernel_rfl, ?_⟩) E1.out ?_
      rotate_left 1
      · intro u hu; obtain ⟨y0, y1, y2, y3, y4, y5, y6, y7, y8⟩ := evCells hu; go_simp; first | done | with_reducible rfl
      try simp only [Act.put, nA, nB, nC, nD, nE, nF]
      refine held_take 13 ?_ rfl (by kernel_rfl) (by kernel_rfl) (by kernel_rfl) (fun _ _ _ h => h) (Or.inl ⟨by kernel_rfl, ?_⟩) E1.out ?_
      rotate_left 1
      · intro u hu; obtain ⟨y0, y1, y2, y3, y4, y5, y6, y7, y8⟩ := evCells hu; go_simp; first | done | with_reducible rfl
      try simp only [Act.put, nA, nB, nC, nD, nE, nF]
      refine held_take 14 ?_ rfl (by kernel_rfl) (by kernel_rfl) (by kernel_rfl) (fun _ _ _ h => h) (Or.inl ⟨by kernel_rfl, ?_⟩) E1.out ?_
      rotate_left 1
      · intro u hu; obtain ⟨y0, y1, y2, y3, y4, y5, y6, y7, y8⟩ := evCells hu; go_simp; first | done | with_reducible rfl
      try simp only [Act.put, nA, nB, nC, nD, nE, nF]
      refine held_one 10 (by kernel_rfl) rfl (by kernel_rfl) (fun K hK => ?_)
      go_simp
      refine ((HP _ (HW.out.turn V1.out)).out).mono ?_
      rintro e w2 ⟨rfl, t2⟩
      have V2 := Lib.hid (V1.out.trans t2)
      have E2 := Lib.hid (E1.out.turn t2)
      clear t2
      refine hK _ _ E2.out ?_
      clear hK K
      try simp only [Act.put, nA, nB, nC, nD, nE, nF]
      refine held_take 15 ?_ rfl (by kernel_rfl) (by kernel_rfl) (by kernel_rfl) (fun _ _ _ h => h) (Or.inl ⟨by kernel_rfl, ?_⟩) E2.out ?_
      rotate_left 1
      · intro u hu; obtain ⟨y0, y1, y2, y3, y4, y5, y6, y7, y8⟩ := evCells hu; go_simp; first | done | with_reducible rfl
      try simp only [Act.put, nA, nB, nC, nD, nE, nF]
      refine held_take 16 ?_ rfl (by kernel_rfl) (by kernel_rfl) (by kernel_rfl) (fun _ _ _ h => h) (Or.inl ⟨by kernel_rfl, ?_⟩) E2.out ?_
      rotate_left 1
      · intro u hu; obtain ⟨y0, y1, y2, y3, y4, y5, y6, y7, y8⟩ := evCells hu; go_simp; first | done | with_reducible rfl
      try simp only [Act.put, nA, nB, nC, nD, nE, nF]
      refine held_one 17 (by kernel_rfl) rfl (by kernel_rfl) (fun K hK => ?_)
      go_simp
      refine (need_no _).mono ?_
      rintro e wn ⟨rfl, rfl⟩
      exact ⟨rfl, rfl, V2.out⟩
end Go.Proofs.YtpbjblbeepbklaaGreatDoor
