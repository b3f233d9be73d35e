/- The program's walks: Parse, words of a row. Printed by gen_xe.py. The program's walks: works, its values. The program's walks: works. Printed by gen_xj.py. -/
import Derived.Test.YtpbjblbeepbklaaGreatDoorKn
import Derived.Test.YtpbjblbeepbklaaGreatDoorKo
namespace Go.Proofs.YtpbjblbeepbklaaGreatDoor
set_option linter.unusedSimpArgs false
set_option linter.unusedVariables false
section
open Go.RowKit Go.Shelf

def okP (r : RowD) (L : List Bs) : Prop := r.word = L[2]?.getD [] ∧ sizeR r = L.length ∧ (r.msg = [] ∨ r.msg = L[4]?.getD [])
def parseL (L : List Bs) : Option EventD := if L.length ≤ 2 then none else match rowOf L with
  | none => none
  | some r => readR r L
theorem rowOf_at {L : List Bs} {k : Nat} {r : RowD} (hno : ∀ j r', j < k → rowsD[j]? = some r' → ¬ okP r' L) (hr : rowsD[k]? = some r) (h : okP r L) : rowOf L = some r := by
  unfold rowOf
  rw [List.find?_eq_some_iff_getElem]
  obtain ⟨hk, he⟩ := List.getElem?_eq_some_iff.1 hr
  refine ⟨decide_eq_true h, k, hk, he, fun j hj => ?_⟩
  have hj2 : j < rowsD.length := by omega
  have hn := hno j _ hj (List.getElem?_eq_getElem hj2)
  simp only [Bool.not_eq_eq_eq_not, Bool.not_true, decide_eq_false_iff_not]
  exact hn
theorem rowOf_no {L : List Bs} (hno : ∀ r ∈ rowsD, ¬ okP r L) : rowOf L = none := by
  unfold rowOf
  exact List.find?_eq_none.2 fun r hr => by simpa [okP] using hno r hr
theorem rowbox_ex (w : World) (r : RowD) (v : Value) : ∃ q wb wc, w.heap.size = q ∧ w.alloc (.cells #[.int .i64 0, .int .i64 0, .string ⟨#[]⟩, .string ⟨#[]⟩, .slice none 0 0] 70) = wb ∧
    (wb.cell? ⟨q, 0, none⟩ = some (.int .i64 0) ∧ wb.cell? ⟨q, 1, none⟩ = some (.int .i64 0) ∧ wb.cell? ⟨q, 2, none⟩ = some (.string ⟨#[]⟩) ∧ wb.cell? ⟨q, 3, none⟩ = some (.string ⟨#[]⟩) ∧ wb.cell? ⟨q, 4, none⟩ = some (.slice none 0 0)) ∧
    (wb.frozen? ⟨q, 0, none⟩ = false ∧ wb.frozen? ⟨q, 1, none⟩ = false ∧ wb.frozen? ⟨q, 2, none⟩ = false ∧ wb.frozen? ⟨q, 3, none⟩ = false ∧ wb.frozen? ⟨q, 4, none⟩ = false) ∧
    (((((wb.setCell ⟨q, 0, none⟩ (.int .i64 r.kind)).setCell ⟨q, 1, none⟩ (.int .i64 r.tag)).setCell ⟨q, 2, none⟩ (.string (BT r.word))).setCell ⟨q, 3, none⟩ (.string (BT r.msg))).setCell ⟨q, 4, none⟩ (v)) = wc ∧ RowBox wc q r v ∧ Turn Nn w wb ∧ Turn Nn w wc := by
  obtain ⟨wb, e0⟩ : ∃ wb, w.alloc (.cells #[.int .i64 0, .int .i64 0, .string ⟨#[]⟩, .string ⟨#[]⟩, .slice none 0 0] 70) = wb := ⟨_, rfl⟩
  obtain ⟨b0, t0⟩ := alloc1 e0
  obtain ⟨q, hq⟩ : ∃ q, w.heap.size = q := ⟨_, rfl⟩
  rw [hq] at b0
  have h0 := heap_setCell_at b0 0 (.int .i64 r.kind)
  have h1 := heap_setCell_at h0 1 (.int .i64 r.tag)
  have h2 := heap_setCell_at h1 2 (.string (BT r.word))
  have h3 := heap_setCell_at h2 3 (.string (BT r.msg))
  have h4 := heap_setCell_at h3 4 v
  refine ⟨q, wb, _, hq, e0, ⟨cell_blk b0, cell_blk b0, cell_blk b0, cell_blk b0, cell_blk b0⟩, ⟨frozen_blk b0, frozen_blk b0, frozen_blk b0, frozen_blk b0, frozen_blk b0⟩, rfl, h4, t0, ?_⟩
  have g : w.heap.size ≤ q := by omega
  exact ((((t0.setCell (p := ⟨q, 0, none⟩) (.inr g) _).setCell (p := ⟨q, 1, none⟩) (.inr g) _).setCell (p := ⟨q, 2, none⟩) (.inr g) _).setCell (p := ⟨q, 3, none⟩) (.inr g) _).setCell (p := ⟨q, 4, none⟩) (.inr g) _
theorem evCells0 {w : World} {B : Nat} (h : EvAt w B zeroE) :
    w.cell? ⟨B, 0, none⟩ = some (.int .i64 0) ∧ w.cell? ⟨B, 1, none⟩ = some (.int .i64 0) ∧ w.cell? ⟨B, 2, none⟩ = some (.string ⟨#[]⟩) ∧ w.cell? ⟨B, 3, none⟩ = some (.int .i64 0) ∧ w.cell? ⟨B, 4, none⟩ = some (.string ⟨#[]⟩) ∧
    w.cell? ⟨B, 5, none⟩ = some (.int .i64 0) ∧ w.cell? ⟨B, 6, none⟩ = some (.int .i64 0) ∧ w.cell? ⟨B, 7, none⟩ = some (.int .i64 0) ∧ w.cell? ⟨B, 8, none⟩ = some (.string ⟨#[]⟩) := evCells h
/-- Two words of a list. -/
def W24 (u : World) (lb : Nat) (L : List Bs) (X2 X4 : ByteArray) : Prop := u.cell? ⟨lb, 2, none⟩ = some (.string X2) ∧ (4 < L.length → u.cell? ⟨lb, 4, none⟩ = some (.string X4))
theorem W24.turn {u u' : World} {lb : Nat} {L : List Bs} {X2 X4 : ByteArray} (h : W24 u lb L X2 X4) (t : Turn Nn u u') : W24 u' lb L X2 X4 := ⟨cell_turn t h.1, fun h4 => cell_turn t (h.2 h4)⟩
theorem WAt.two {u : World} {lb : Nat} {L : List Bs} (h : WAt u lb L) (hm : 2 < L.length) : W24 u lb L (BT (L[2]?.getD [])) (BT (L[4]?.getD [])) := ⟨h 2 hm, fun h4 => h 4 h4⟩
theorem beqB (a b : Bs) : ((BT a).toList == (BT b).toList) = decide (a = b) := by
  rw [BT_toList, BT_toList, Bool.eq_iff_iff, beq_iff_eq, decide_eq_true_eq]
set_option maxRecDepth 100000 in
set_option maxHeartbeats 40000000 in
theorem parse_row {s : Bs} (hl : s.length ≤ 4000000) (hc : cutIdle s = none) {w : World} (hw : Laid w) : Calls Tryz.prog 24 #[.string (BT s)] w (ParseP w s) := by
  obtain ⟨W, n, O⟩ := openP_ex w
  have HD := Lib.hid O.door
  have HW := Lib.hid hw
  have HCS := fun w => Lib.hid (show Calls Tryz.prog 27 #[.string (BT s), .string ⟨#[32, 105, 100, 108, 101]⟩] w _ from cutSuf_no (t := tIdle) (cutIdle_no hc) hl w)
  have HSP := fun w (h : Laid w) => Lib.hid (split_any 32 s hl h)
  have hpd : parseD s = parseL (spC 32 s) := by unfold parseD parseL; rw [hc]; rfl
  have HNO := fun (h : parseD s = none) W' (t : Turn Nn w W') => parseP_none (w := w) (W := W') h t
  have HYES := fun E (h : parseD s = some E) W' (t : Turn Nn w W') => parseP_some (w := w) (E := E) (W := W') h t
  rw [hpd] at HNO HYES
  have hLx : ∀ x ∈ spC 32 s, x.length ≤ 4000000 := fun x hx => Nat.le_trans (spC_word_le 32 s x hx) hl
  have hLl : (spC 32 s).length ≤ 4000001 := by have := spC_length 32 s; omega
  have hLn := spC_ne 32 s
  obtain ⟨w0, w1, w2, hn, e0, s0, e1, s1, e2, c2, z2, e4⟩ := O.ex
  have hmf : ∀ (fn : Fn) (first cap : Array Value) (w : World), (Instr.makeFunc fn first cap).run Tryz.prog w = .ok (.func fn first cap) w := fun _ _ _ _ => rfl
  obtain ⟨Pq, hP⟩ : ∃ Pq, ParseP w s = Pq := ⟨_, rfl⟩
  rw [hP] at HNO HYES ⊢
  obtain ⟨S, hS⟩ : ∃ S, BT s = S := ⟨_, rfl⟩
  rw [hS] at HCS ⊢
  simp only [hS] at HSP
  obtain ⟨L, hL⟩ : ∃ L, spC 32 s = L := ⟨_, rfl⟩
  simp only [hL] at HSP HNO HYES hLx hLl hLn
  have HLX := Lib.hid hLx
  have HLL := Lib.hid hLl
  have HLN := Lib.hid hLn
  clear O hw hP hS hl hpd hc hL hLx hLl hLn
  go_enter_defers Tryz.func24, Tryz.ntmps24
  go_wp2_with fail
  refine (HCS _).out.mono ?_
  rintro e wn ⟨rfl, rfl⟩
  have T1 := Lib.hid HD.out.low
  clear e0 e1 e2 e4 c2 z2 hmf HCS s0 s1 hn
  go_wp2_with fail
  refine (HSP _ (HW.out.turn T1.out)).out.mono ?_
  rintro e w5 ⟨v5, rfl, hst, ⟨lb, n5, cap, rfl⟩, t5⟩
  have D5 := Lib.hid (HD.out.turn t5)
  obtain ⟨hlen, hcap, hwat⟩ : n5 = L.length ∧ L.length ≤ cap ∧ WAt w5 lb L := by
    rcases hst with ⟨h, _⟩ | ⟨b, o, c, he, hcap, hc⟩
    · exact absurd h HLN.out
    · cases he
      exact ⟨rfl, hcap, fun i hi => by have := hc i hi; rw [Nat.zero_add] at this; exact this⟩
  have HWA := Lib.hid hwat
  have HCAP := Lib.hid hcap
  subst hlen
  obtain ⟨m, hm⟩ : ∃ m, L.length = m := ⟨_, rfl⟩
  have HM := Lib.hid hm
  rw [hm] at hcap ⊢
  clear t5 hst hwat hcap hm HSP
  by_cases h2 : 2 < m
  · have h2i : (2 : Int) < (m : Int) := by omega
    go_wp2_with fail
    refine (need_yes _).mono ?_
    rintro e wn ⟨rfl, rfl⟩
    go_wp2_with fail
    refine (rows_any _).mono ?_
    rintro e w6 ⟨R, rfl, _, hR, t6⟩
    have D6 := Lib.hid (D5.out.turn t6)
    have R6 := Lib.hid hR
    have WA6 := Lib.hid (HWA.out.turn t6)
    clear t6 hR
    go_wp2_with fail
    go_loopw [9, 28] (fun _ i wr => ∃ k : Nat, k ≤ 13 ∧ i = .int .i64 k ∧ (∀ j r, j < k → rowsD[j]? = some r → ¬ okP r L) ∧ Turn Nn w6 wr) (fun _ i _ => 13 - (intOf i).toNat)
    case atStart => exact ⟨0, by omega, rfl, fun j r hj => by omega, Turn.refl _ _⟩
    case round =>
      obtain ⟨k, hk, rfl, hno, ht⟩ := hrel
      have HN := Lib.hid hno
      have HT := Lib.hid ht
      clear hno ht
      by_cases hlt : k < 13
      · obtain ⟨r, hr⟩ : ∃ r, rowsD[k]? = some r := ⟨rowsD[k]'hlt, List.getElem?_eq_getElem hlt⟩
        have HRK := Lib.hid hr
        have HRM := Lib.hid (List.mem_of_getElem? hr)
        obtain ⟨v, hf, x0, x1, x2, x3, x4⟩ := (R6.out.turn HT.out).row5 hr
        have HF := Lib.hid hf
        obtain ⟨q, wb, wc, hq, eb, ⟨b0, b1, b2, b3, b4⟩, ⟨f0, f1, f2, f3, f4⟩, ec, bx, tb, tc⟩ := rowbox_ex wr r v
        have BX := Lib.hid bx
        have TC := Lib.hid tc
        have VOC : Hid (∃ pa, v = .slice pa r.flds.length r.flds.length) := Lib.hid (by obtain ⟨pa, h, _⟩ := hf.len; exact ⟨pa, h⟩)
        obtain ⟨pa, rfl⟩ := VOC.out
        clear hf hr bx tb tc
        go_upto_region 12 with (fail)
        clear x0 x1 x2 x3 x4 b0 b1 b2 b3 b4 f0 f1 f2 f3 f4 eb ec hq
        obtain ⟨X2, hX2⟩ : ∃ X, BT (L[2]?.getD []) = X := ⟨_, rfl⟩
        obtain ⟨X4, hX4⟩ : ∃ X, BT (L[4]?.getD []) = X := ⟨_, rfl⟩
        refine held_begin (fun u => RowBox u q r (.slice pa r.flds.length r.flds.length) ∧ W24 u lb L X2 X4) (by kernel_rfl) ?_
        generalize hwd : World.drew wc = wd
        have TD : Hid (Turn Nn wr wd) := Lib.hid (by rw [← hwd]; exact TC.out.drew)
        have SD : Hid (RowBox wd q r (.slice pa r.flds.length r.flds.length) ∧ W24 wd lb L X2 X4) := Lib.hid ⟨by rw [← hwd]; exact BX.out, by rw [← hX2, ← hX4]; exact (WA6.out.turn (HT.out.trans TD.out)).two (by rw [HM.out]; exact h2)⟩
        have TE := Lib.hid (HT.out.trans TD.out)
        have hq1 : ((BT r.word).toList == X2.toList) = decide (r.word = L[2]?.getD []) := by rw [← hX2]; exact beqB _ _
        have HSZ := Lib.hid (size_any (HF.out.turn TD.out) (by have := rows_word r HRM.out; omega))
        unfold rowA at HSZ
        clear hwd
        by_cases c1 : r.word = L[2]?.getD []
        · rw [decide_eq_true c1] at hq1
          refine held_take 0 ?_ rfl (by kernel_rfl) (by kernel_rfl) (by kernel_rfl) (by intro c a w h; exact put24 (k := 32) (by decide) (by decide) h) (Or.inl ⟨by kernel_rfl, ?_⟩) SD.out ?_
          rotate_left 1
          · intro u hu; obtain ⟨hu1, hu2⟩ := hu; obtain ⟨x0, x1, x2, x3, x4⟩ := rowCells hu1; obtain ⟨l2, l4⟩ := hu2; go_simp; first | done | with_reducible rfl
          try simp only [Act.put, nA, nB, nC, nD, nE, nF]
          refine held_take 1 ?_ rfl (by kernel_rfl) (by kernel_rfl) (by kernel_rfl) (by intro c a w h; exact put24 (k := 33) (by decide) (by decide) h) (Or.inl ⟨by kernel_rfl, ?_⟩) SD.out ?_
          rotate_left 1
          · intro u hu; obtain ⟨hu1, hu2⟩ := hu; obtain ⟨x0, x1, x2, x3, x4⟩ := rowCells hu1; obtain ⟨l2, l4⟩ := hu2; go_simp; first | done | with_reducible rfl
          try simp only [Act.put, nA, nB, nC, nD, nE, nF]
          refine held_take 2 ?_ rfl (by kernel_rfl) (by kernel_rfl) (by kernel_rfl) (by intro c a w h; exact put24 (k := 34) (by decide) (by decide) h) (Or.inl ⟨by kernel_rfl, ?_⟩) SD.out ?_
          rotate_left 1
          · intro u hu; obtain ⟨hu1, hu2⟩ := hu; obtain ⟨x0, x1, x2, x3, x4⟩ := rowCells hu1; obtain ⟨l2, l4⟩ := hu2; go_simp; first | done | with_reducible rfl
          try simp only [Act.put, nA, nB, nC, nD, nE, nF]
          refine held_take 3 ?_ rfl (by kernel_rfl) (by kernel_rfl) (by kernel_rfl) (by intro c a w h; exact put24 (k := 35) (by decide) (by decide) h) (Or.inl ⟨by kernel_rfl, ?_⟩) SD.out ?_
          rotate_left 1
          · intro u hu; obtain ⟨hu1, hu2⟩ := hu; obtain ⟨x0, x1, x2, x3, x4⟩ := rowCells hu1; obtain ⟨l2, l4⟩ := hu2; go_simp; first | done | with_reducible rfl
          try simp only [Act.put, nA, nB, nC, nD, nE, nF]
          refine held_take 4 ?_ rfl (by kernel_rfl) (by kernel_rfl) (by kernel_rfl) (by intro c a w h; exact put24 (k := 36) (by decide) (by decide) h) (Or.inl ⟨by kernel_rfl, ?_⟩) SD.out ?_
          rotate_left 1
          · intro u hu; obtain ⟨hu1, hu2⟩ := hu; obtain ⟨x0, x1, x2, x3, x4⟩ := rowCells hu1; obtain ⟨l2, l4⟩ := hu2; go_simp; first | done | with_reducible rfl
          try simp only [Act.put, nA, nB, nC, nD, nE, nF]
          refine held_take 5 ?_ rfl (by kernel_rfl) (by kernel_rfl) (by kernel_rfl) (by intro c a w h; exact put24 (k := 37) (by decide) (by decide) h) (Or.inl ⟨by kernel_rfl, ?_⟩) SD.out ?_
          rotate_left 1
          · intro u hu; obtain ⟨hu1, hu2⟩ := hu; obtain ⟨x0, x1, x2, x3, x4⟩ := rowCells hu1; obtain ⟨l2, l4⟩ := hu2; go_simp; first | done | with_reducible rfl
          try simp only [Act.put, nA, nB, nC, nD, nE, nF]
          refine held_take 6 ?_ rfl (by kernel_rfl) (by kernel_rfl) (by kernel_rfl) (by intro c a w h; exact put24 (k := 38) (by decide) (by decide) h) (Or.inl ⟨by kernel_rfl, ?_⟩) SD.out ?_
          rotate_left 1
          · intro u hu; obtain ⟨hu1, hu2⟩ := hu; obtain ⟨x0, x1, x2, x3, x4⟩ := rowCells hu1; obtain ⟨l2, l4⟩ := hu2; go_simp; first | done | with_reducible rfl
          try simp only [Act.put, nA, nB, nC, nD, nE, nF]
          refine held_take 7 ?_ rfl (by kernel_rfl) (by kernel_rfl) (by kernel_rfl) (by intro c a w h; exact put24 (k := 39) (by decide) (by decide) h) (Or.inl ⟨by kernel_rfl, ?_⟩) SD.out ?_
          rotate_left 1
          · intro u hu; obtain ⟨hu1, hu2⟩ := hu; obtain ⟨x0, x1, x2, x3, x4⟩ := rowCells hu1; obtain ⟨l2, l4⟩ := hu2; go_simp; first | done | with_reducible rfl
          try simp only [Act.put, nA, nB, nC, nD, nE, nF]
          refine held_take 9 ?_ rfl (by kernel_rfl) (by kernel_rfl) (by kernel_rfl) (by intro c a w h; exact put24 (k := 41) (by decide) (by decide) h) (Or.inl ⟨by kernel_rfl, ?_⟩) SD.out ?_
          rotate_left 1
          · intro u hu; obtain ⟨hu1, hu2⟩ := hu; obtain ⟨x0, x1, x2, x3, x4⟩ := rowCells hu1; obtain ⟨l2, l4⟩ := hu2; go_simp; first | done | with_reducible rfl
          try simp only [Act.put, nA, nB, nC, nD, nE, nF]
          refine held_take 10 ?_ rfl (by kernel_rfl) (by kernel_rfl) (by kernel_rfl) (by intro c a w h; exact put24 (k := 42) (by decide) (by decide) h) (Or.inl ⟨by kernel_rfl, ?_⟩) SD.out ?_
          rotate_left 1
          · intro u hu; obtain ⟨hu1, hu2⟩ := hu; obtain ⟨x0, x1, x2, x3, x4⟩ := rowCells hu1; obtain ⟨l2, l4⟩ := hu2; go_simp; first | done | with_reducible rfl
          try simp only [Act.put, nA, nB, nC, nD, nE, nF]
          refine held_call 8 (by kernel_rfl) rfl (by kernel_rfl) (by first | rfl | go_simp) HSZ.out ?_ (fun c u h => by cases h.1) (fun u h => by cases h.1)
          rintro v8 we ⟨he, te⟩
          cases he
          have TG := Lib.hid (TD.out.trans te)
          have TF := Lib.hid (TE.out.trans te)
          have SE : Hid (RowBox we q r (.slice pa r.flds.length r.flds.length) ∧ W24 we lb L X2 X4) := Lib.hid ⟨SD.out.1.turn te, SD.out.2.turn te⟩
          clear te
          refine ⟨SE.out, ?_⟩
          try simp only [Act.put, nA, nB, nC, nD, nE, nF]
          obtain ⟨sz, hsz⟩ : ∃ sz, sizeR r = sz := ⟨_, rfl⟩
          rw [hsz]
          have HSR := Lib.hid hsz
          clear hsz
          by_cases c2 : sz = m
          · subst c2
            refine held_take 11 ?_ rfl (by kernel_rfl) (by kernel_rfl) (by kernel_rfl) (by intro c a w h; exact put24 (k := 43) (by decide) (by decide) h) (Or.inl ⟨by kernel_rfl, ?_⟩) SE.out ?_
            rotate_left 1
            · intro u hu; obtain ⟨hu1, hu2⟩ := hu; obtain ⟨x0, x1, x2, x3, x4⟩ := rowCells hu1; obtain ⟨l2, l4⟩ := hu2; go_simp; first | done | with_reducible rfl
            try simp only [Act.put, nA, nB, nC, nD, nE, nF]
            refine held_take 12 ?_ rfl (by kernel_rfl) (by kernel_rfl) (by kernel_rfl) (by intro c a w h; exact put24 (k := 44) (by decide) (by decide) h) (Or.inl ⟨by kernel_rfl, ?_⟩) SE.out ?_
            rotate_left 1
            · intro u hu; obtain ⟨hu1, hu2⟩ := hu; obtain ⟨x0, x1, x2, x3, x4⟩ := rowCells hu1; obtain ⟨l2, l4⟩ := hu2; go_simp; first | done | with_reducible rfl
            try simp only [Act.put, nA, nB, nC, nD, nE, nF]
            refine held_take 13 ?_ rfl (by kernel_rfl) (by kernel_rfl) (by kernel_rfl) (by intro c a w h; exact put24 (k := 45) (by decide) (by decide) h) (Or.inl ⟨by kernel_rfl, ?_⟩) SE.out ?_
            rotate_left 1
            · intro u hu; obtain ⟨hu1, hu2⟩ := hu; obtain ⟨x0, x1, x2, x3, x4⟩ := rowCells hu1; obtain ⟨l2, l4⟩ := hu2; go_simp; first | done | with_reducible rfl
            try simp only [Act.put, nA, nB, nC, nD, nE, nF]
            refine held_take 14 ?_ rfl (by kernel_rfl) (by kernel_rfl) (by kernel_rfl) (by intro c a w h; exact put24 (k := 46) (by decide) (by decide) h) (Or.inl ⟨by kernel_rfl, ?_⟩) SE.out ?_
            rotate_left 1
            · intro u hu; obtain ⟨hu1, hu2⟩ := hu; obtain ⟨x0, x1, x2, x3, x4⟩ := rowCells hu1; obtain ⟨l2, l4⟩ := hu2; go_simp; first | done | with_reducible rfl
            try simp only [Act.put, nA, nB, nC, nD, nE, nF]
            refine held_take 15 ?_ rfl (by kernel_rfl) (by kernel_rfl) (by kernel_rfl) (by intro c a w h; exact put24 (k := 47) (by decide) (by decide) h) (Or.inl ⟨by kernel_rfl, ?_⟩) SE.out ?_
            rotate_left 1
            · intro u hu; obtain ⟨hu1, hu2⟩ := hu; obtain ⟨x0, x1, x2, x3, x4⟩ := rowCells hu1; obtain ⟨l2, l4⟩ := hu2; go_simp; first | done | with_reducible rfl
            try simp only [Act.put, nA, nB, nC, nD, nE, nF]
            by_cases c3 : r.msg = []
            · have OKR : Hid (okP r L) := Lib.hid ⟨c1, by rw [HSR.out, HM.out], .inl c3⟩
              have hq3 : BT r.msg = ⟨#[]⟩ := by rw [c3]; rfl
              clear c3
              refine held_take 16 ?_ rfl (by kernel_rfl) (by kernel_rfl) (by kernel_rfl) (by intro c a w h; exact put24 (k := 48) (by decide) (by decide) h) (Or.inl ⟨by kernel_rfl, ?_⟩) SE.out ?_
              rotate_left 1
              · intro u hu; obtain ⟨hu1, hu2⟩ := hu; obtain ⟨x0, x1, x2, x3, x4⟩ := rowCells hu1; obtain ⟨l2, l4⟩ := hu2; go_simp; first | done | with_reducible rfl
              try simp only [Act.put, nA, nB, nC, nD, nE, nF]
              refine held_take 17 ?_ rfl (by kernel_rfl) (by kernel_rfl) (by kernel_rfl) (by intro c a w h; exact put24 (k := 49) (by decide) (by decide) h) (Or.inl ⟨by kernel_rfl, ?_⟩) SE.out ?_
              rotate_left 1
              · intro u hu; obtain ⟨hu1, hu2⟩ := hu; obtain ⟨x0, x1, x2, x3, x4⟩ := rowCells hu1; obtain ⟨l2, l4⟩ := hu2; go_simp; first | done | with_reducible rfl
              try simp only [Act.put, nA, nB, nC, nD, nE, nF]
              refine held_take 18 undef rfl (by kernel_rfl) (by kernel_rfl) (by kernel_rfl) (by intro c a w h; exact put24 (k := 50) (by decide) (by decide) h) (Or.inr ⟨by kernel_rfl, rfl⟩) SE.out ?_
              try simp only [Act.put, nA, nB, nC, nD, nE, nF]
              refine held_take 19 undef rfl (by kernel_rfl) (by kernel_rfl) (by kernel_rfl) (by intro c a w h; exact put24 (k := 51) (by decide) (by decide) h) (Or.inr ⟨by kernel_rfl, rfl⟩) SE.out ?_
              try simp only [Act.put, nA, nB, nC, nD, nE, nF]
              refine held_take 20 undef rfl (by kernel_rfl) (by kernel_rfl) (by kernel_rfl) (by intro c a w h; exact put24 (k := 52) (by decide) (by decide) h) (Or.inr ⟨by kernel_rfl, rfl⟩) SE.out ?_
              try simp only [Act.put, nA, nB, nC, nD, nE, nF]
              refine held_take 21 undef rfl (by kernel_rfl) (by kernel_rfl) (by kernel_rfl) (by intro c a w h; exact put24 (k := 53) (by decide) (by decide) h) (Or.inr ⟨by kernel_rfl, rfl⟩) SE.out ?_
              try simp only [Act.put, nA, nB, nC, nD, nE, nF]
              refine held_take 22 undef rfl (by kernel_rfl) (by kernel_rfl) (by kernel_rfl) (by intro c a w h; exact put24 (k := 54) (by decide) (by decide) h) (Or.inr ⟨by kernel_rfl, rfl⟩) SE.out ?_
              try simp only [Act.put, nA, nB, nC, nD, nE, nF]
              refine held_take 23 undef rfl (by kernel_rfl) (by kernel_rfl) (by kernel_rfl) (by intro c a w h; exact put24 (k := 55) (by decide) (by decide) h) (Or.inr ⟨by kernel_rfl, rfl⟩) SE.out ?_
              try simp only [Act.put, nA, nB, nC, nD, nE, nF]
              refine held_take 24 ?_ rfl (by kernel_rfl) (by kernel_rfl) (by kernel_rfl) (by intro c a w h; exact put24 (k := 56) (by decide) (by decide) h) (Or.inl ⟨by kernel_rfl, ?_⟩) SE.out ?_
              rotate_left 1
              · intro u hu; obtain ⟨hu1, hu2⟩ := hu; obtain ⟨x0, x1, x2, x3, x4⟩ := rowCells hu1; obtain ⟨l2, l4⟩ := hu2; go_simp; first | done | with_reducible rfl
              try simp only [Act.put, nA, nB, nC, nD, nE, nF]
              refine held_take 25 ?_ rfl (by kernel_rfl) (by kernel_rfl) (by kernel_rfl) (by intro c a w h; exact put24 (k := 57) (by decide) (by decide) h) (Or.inl ⟨by kernel_rfl, ?_⟩) SE.out ?_
              rotate_left 1
              · intro u hu; obtain ⟨hu1, hu2⟩ := hu; obtain ⟨x0, x1, x2, x3, x4⟩ := rowCells hu1; obtain ⟨l2, l4⟩ := hu2; go_simp; first | done | with_reducible rfl
              try simp only [Act.put, nA, nB, nC, nD, nE, nF]
              clear c1 hq1 hq3 hX2 hX4
              refine wpAnyH_done (by kernel_rfl) ?_ _
              have HRO := Lib.hid (rowOf_at HN.out HRK.out OKR.out)
              have HPL : Hid (parseL L = readR r L) := Lib.hid (by unfold parseL; rw [if_neg (by have := HM.out; omega), HRO.out])
              obtain ⟨x0, x1, x2, x3, x4⟩ := rowCells SE.out.1
              have D7 := Lib.hid (D6.out.turn TF.out)
              have HRD := Lib.hid (row_read_any HRM.out (WA6.out.turn TF.out) OKR.out.2.1.symm HLX.out HCAP.out (HF.out.turn TG.out) (HW.out.turn D7.out.low))
              unfold rowA at HRD
              rw [HM.out] at HRD
              obtain ⟨y, hy⟩ : ∃ y, readR r L = y := ⟨_, rfl⟩
              have HY := Lib.hid (HPL.out.trans hy)
              rw [hy] at HRD
              clear hy
              cases y with
              | none =>
                go_wp2_with fail
                refine HRD.out.mono ?_
                rintro e w8 ⟨he, t8⟩
                obtain rfl : e = badE := he
                exact doorP_bad (D7.out.turn t8) rfl rfl (HNO HY.out)
              | some E' =>
                go_wp2_with fail
                refine HRD.out.mono ?_
                rintro e w8 ⟨he, t8⟩
                obtain rfl : e = .returned (.agg #[.int .i64 E'.kind, .int .i64 E'.slot, .string (BT E'.actor), .int .i64 E'.pc, .string (BT E'.chan), .int .i64 E'.side, .int .i64 E'.tag, .int .i64 E'.word, .string (BT E'.name)]) := he
                have D8 := Lib.hid (D7.out.turn t8)
                obtain ⟨y0, y1, y2, y3, y4, y5, y6, y7, y8⟩ := evCells0 D8.out.h1
                obtain ⟨z0, z1, z2, z3, z4, z5, z6, z7, z8⟩ := evFree D8.out.h1
                have D9 := Lib.hid (D8.out.set E' 0)
                have h2' : (set9 w8 n E').heap[n + 1]? = some (.cells #[.int .i64 0] 37) := set9_blk D8.out.h2 (fun e => D8.out.n12 e.symm)
                obtain ⟨w9, hw9⟩ : ∃ w9, set9 w8 n E' = w9 := ⟨_, rfl⟩
                rw [hw9] at h2' D9
                have hw9' : (((((((((w8.setCell ⟨n, 0, none⟩ (.int .i64 E'.kind)).setCell ⟨n, 1, none⟩ (.int .i64 E'.slot)).setCell ⟨n, 2, none⟩ (.string (BT E'.actor))).setCell ⟨n, 3, none⟩ (.int .i64 E'.pc)).setCell ⟨n, 4, none⟩ (.string (BT E'.chan))).setCell ⟨n, 5, none⟩ (.int .i64 E'.side)).setCell ⟨n, 6, none⟩ (.int .i64 E'.tag)).setCell ⟨n, 7, none⟩ (.int .i64 E'.word)).setCell ⟨n, 8, none⟩ (.string (BT E'.name))) = w9 := hw9
                have c2' : w9.cell? ⟨n + 1, 0, none⟩ = some (.int .i64 0) := cell_blk (o := 0) h2'
                have z9 := frozen_blk (o := 0) h2'
                clear t8 h2' hw9 x0 x1 x2 x3 x4
                go_wp2_with fail
                exact doorP_ok D9.out rfl rfl (HYES _ HY.out _ D9.out.low)
            · have hq3 : ((BT r.msg).toList == (⟨#[]⟩ : ByteArray).toList) = false := by rw [show (⟨#[]⟩ : ByteArray) = BT [] from rfl, beqB]; exact decide_eq_false c3
              have hq4 : ((BT r.msg).toList == []) = false := by rw [BT_toList, beq_eq_false_iff_ne]; exact c3
              have hq5 : (BT r.msg).toList.isEmpty = false := by rw [BT_toList, List.isEmpty_eq_false_iff]; exact c3
              have h4m : 4 < sz := by
                have hs6 := HSR.out
                obtain ⟨_, _, _, _, _, _, hsh⟩ := rows_shape r HRM.out
                rcases hsh with ⟨_, h0⟩ | ⟨f, _, h0⟩ | ⟨g, hf, h0, _⟩
                · exact absurd h0 c3
                · exact absurd h0 c3
                · unfold sizeR at hs6; rw [hf, Nat.min_eq_right (by omega)] at hs6; simp at hs6; omega
              have h4i : (4 : Int) < (sz : Int) := by omega
              have h4L : 4 < L.length := by rw [HM.out]; exact h4m
              refine held_take 16 ?_ rfl (by kernel_rfl) (by kernel_rfl) (by kernel_rfl) (by intro c a w h; exact put24 (k := 48) (by decide) (by decide) h) (Or.inl ⟨by kernel_rfl, ?_⟩) SE.out ?_
              rotate_left 1
              · intro u hu; obtain ⟨hu1, hu2⟩ := hu; obtain ⟨x0, x1, x2, x3, x4⟩ := rowCells hu1; obtain ⟨l2, l4⟩ := hu2; replace l4 := l4 h4L; go_simp; first | done | with_reducible rfl
              try simp only [Act.put, nA, nB, nC, nD, nE, nF]
              refine held_take 17 ?_ rfl (by kernel_rfl) (by kernel_rfl) (by kernel_rfl) (by intro c a w h; exact put24 (k := 49) (by decide) (by decide) h) (Or.inl ⟨by kernel_rfl, ?_⟩) SE.out ?_
              rotate_left 1
              · intro u hu; obtain ⟨hu1, hu2⟩ := hu; obtain ⟨x0, x1, x2, x3, x4⟩ := rowCells hu1; obtain ⟨l2, l4⟩ := hu2; replace l4 := l4 h4L; go_simp; first | done | with_reducible rfl
              try simp only [Act.put, nA, nB, nC, nD, nE, nF]
              refine held_take 18 ?_ rfl (by kernel_rfl) (by kernel_rfl) (by kernel_rfl) (by intro c a w h; exact put24 (k := 50) (by decide) (by decide) h) (Or.inl ⟨by kernel_rfl, ?_⟩) SE.out ?_
              rotate_left 1
              · intro u hu; obtain ⟨hu1, hu2⟩ := hu; obtain ⟨x0, x1, x2, x3, x4⟩ := rowCells hu1; obtain ⟨l2, l4⟩ := hu2; replace l4 := l4 h4L; go_simp; first | done | with_reducible rfl
              try simp only [Act.put, nA, nB, nC, nD, nE, nF]
              refine held_take 19 ?_ rfl (by kernel_rfl) (by kernel_rfl) (by kernel_rfl) (by intro c a w h; exact put24 (k := 51) (by decide) (by decide) h) (Or.inl ⟨by kernel_rfl, ?_⟩) SE.out ?_
              rotate_left 1
              · intro u hu; obtain ⟨hu1, hu2⟩ := hu; obtain ⟨x0, x1, x2, x3, x4⟩ := rowCells hu1; obtain ⟨l2, l4⟩ := hu2; replace l4 := l4 h4L; go_simp; first | done | with_reducible rfl
              try simp only [Act.put, nA, nB, nC, nD, nE, nF]
              refine held_take 20 ?_ rfl (by kernel_rfl) (by kernel_rfl) (by kernel_rfl) (by intro c a w h; exact put24 (k := 52) (by decide) (by decide) h) (Or.inl ⟨by kernel_rfl, ?_⟩) SE.out ?_
              rotate_left 1
              · intro u hu; obtain ⟨hu1, hu2⟩ := hu; obtain ⟨x0, x1, x2, x3, x4⟩ := rowCells hu1; obtain ⟨l2, l4⟩ := hu2; replace l4 := l4 h4L; go_simp; first | done | with_reducible rfl
              try simp only [Act.put, nA, nB, nC, nD, nE, nF]
              refine held_take 21 ?_ rfl (by kernel_rfl) (by kernel_rfl) (by kernel_rfl) (by intro c a w h; exact put24 (k := 53) (by decide) (by decide) h) (Or.inl ⟨by kernel_rfl, ?_⟩) SE.out ?_
              rotate_left 1
              · intro u hu; obtain ⟨hu1, hu2⟩ := hu; obtain ⟨x0, x1, x2, x3, x4⟩ := rowCells hu1; obtain ⟨l2, l4⟩ := hu2; replace l4 := l4 h4L; go_simp; first | done | with_reducible rfl
              try simp only [Act.put, nA, nB, nC, nD, nE, nF]
              refine held_take 22 ?_ rfl (by kernel_rfl) (by kernel_rfl) (by kernel_rfl) (by intro c a w h; exact put24 (k := 54) (by decide) (by decide) h) (Or.inl ⟨by kernel_rfl, ?_⟩) SE.out ?_
              rotate_left 1
              · intro u hu; obtain ⟨hu1, hu2⟩ := hu; obtain ⟨x0, x1, x2, x3, x4⟩ := rowCells hu1; obtain ⟨l2, l4⟩ := hu2; replace l4 := l4 h4L; go_simp; first | done | with_reducible rfl
              try simp only [Act.put, nA, nB, nC, nD, nE, nF]
              clear hq3 hq4 hq5
              have C3 := Lib.hid c3
              clear c3
              have hq6 : ((BT r.msg).toList == X4.toList) = decide (r.msg = L[4]?.getD []) := by rw [← hX4]; exact beqB _ _
              by_cases c4 : r.msg = L[4]?.getD []
              · rw [decide_eq_true c4] at hq6
                have OKR : Hid (okP r L) := Lib.hid ⟨c1, by rw [HSR.out, HM.out], .inr c4⟩
                clear c4
                refine held_take 23 ?_ rfl (by kernel_rfl) (by kernel_rfl) (by kernel_rfl) (by intro c a w h; exact put24 (k := 55) (by decide) (by decide) h) (Or.inl ⟨by kernel_rfl, ?_⟩) SE.out ?_
                rotate_left 1
                · intro u hu; obtain ⟨hu1, hu2⟩ := hu; obtain ⟨x0, x1, x2, x3, x4⟩ := rowCells hu1; obtain ⟨l2, l4⟩ := hu2; replace l4 := l4 h4L; go_simp; first | done | with_reducible rfl
                try simp only [Act.put, nA, nB, nC, nD, nE, nF]
                refine held_take 24 ?_ rfl (by kernel_rfl) (by kernel_rfl) (by kernel_rfl) (by intro c a w h; exact put24 (k := 56) (by decide) (by decide) h) (Or.inl ⟨by kernel_rfl, ?_⟩) SE.out ?_
                rotate_left 1
                · intro u hu; obtain ⟨hu1, hu2⟩ := hu; obtain ⟨x0, x1, x2, x3, x4⟩ := rowCells hu1; obtain ⟨l2, l4⟩ := hu2; replace l4 := l4 h4L; go_simp; first | done | with_reducible rfl
                try simp only [Act.put, nA, nB, nC, nD, nE, nF]
                refine held_take 25 ?_ rfl (by kernel_rfl) (by kernel_rfl) (by kernel_rfl) (by intro c a w h; exact put24 (k := 57) (by decide) (by decide) h) (Or.inl ⟨by kernel_rfl, ?_⟩) SE.out ?_
                rotate_left 1
                · intro u hu; obtain ⟨hu1, hu2⟩ := hu; obtain ⟨x0, x1, x2, x3, x4⟩ := rowCells hu1; obtain ⟨l2, l4⟩ := hu2; replace l4 := l4 h4L; go_simp; first | done | with_reducible rfl
                try simp only [Act.put, nA, nB, nC, nD, nE, nF]
                clear c1 hq1 hq6 hX2 hX4
                refine wpAnyH_done (by kernel_rfl) ?_ _
                have HRO := Lib.hid (rowOf_at HN.out HRK.out OKR.out)
                have HPL : Hid (parseL L = readR r L) := Lib.hid (by unfold parseL; rw [if_neg (by have := HM.out; omega), HRO.out])
                obtain ⟨x0, x1, x2, x3, x4⟩ := rowCells SE.out.1
                have D7 := Lib.hid (D6.out.turn TF.out)
                have HRD := Lib.hid (row_read_any HRM.out (WA6.out.turn TF.out) OKR.out.2.1.symm HLX.out HCAP.out (HF.out.turn TG.out) (HW.out.turn D7.out.low))
                unfold rowA at HRD
                rw [HM.out] at HRD
                obtain ⟨y, hy⟩ : ∃ y, readR r L = y := ⟨_, rfl⟩
                have HY := Lib.hid (HPL.out.trans hy)
                rw [hy] at HRD
                clear hy
                cases y with
                | none =>
                  go_wp2_with fail
                  refine HRD.out.mono ?_
                  rintro e w8 ⟨he, t8⟩
                  obtain rfl : e = badE := he
                  exact doorP_bad (D7.out.turn t8) rfl rfl (HNO HY.out)
                | some E' =>
                  go_wp2_with fail
                  refine HRD.out.mono ?_
                  rintro e w8 ⟨he, t8⟩
                  obtain rfl : e = .returned (.agg #[.int .i64 E'.kind, .int .i64 E'.slot, .string (BT E'.actor), .int .i64 E'.pc, .string (BT E'.chan), .int .i64 E'.side, .int .i64 E'.tag, .int .i64 E'.word, .string (BT E'.name)]) := he
                  have D8 := Lib.hid (D7.out.turn t8)
                  obtain ⟨y0, y1, y2, y3, y4, y5, y6, y7, y8⟩ := evCells0 D8.out.h1
                  obtain ⟨z0, z1, z2, z3, z4, z5, z6, z7, z8⟩ := evFree D8.out.h1
                  have D9 := Lib.hid (D8.out.set E' 0)
                  have h2' : (set9 w8 n E').heap[n + 1]? = some (.cells #[.int .i64 0] 37) := set9_blk D8.out.h2 (fun e => D8.out.n12 e.symm)
                  obtain ⟨w9, hw9⟩ : ∃ w9, set9 w8 n E' = w9 := ⟨_, rfl⟩
                  rw [hw9] at h2' D9
                  have hw9' : (((((((((w8.setCell ⟨n, 0, none⟩ (.int .i64 E'.kind)).setCell ⟨n, 1, none⟩ (.int .i64 E'.slot)).setCell ⟨n, 2, none⟩ (.string (BT E'.actor))).setCell ⟨n, 3, none⟩ (.int .i64 E'.pc)).setCell ⟨n, 4, none⟩ (.string (BT E'.chan))).setCell ⟨n, 5, none⟩ (.int .i64 E'.side)).setCell ⟨n, 6, none⟩ (.int .i64 E'.tag)).setCell ⟨n, 7, none⟩ (.int .i64 E'.word)).setCell ⟨n, 8, none⟩ (.string (BT E'.name))) = w9 := hw9
                  have c2' : w9.cell? ⟨n + 1, 0, none⟩ = some (.int .i64 0) := cell_blk (o := 0) h2'
                  have z9 := frozen_blk (o := 0) h2'
                  clear t8 h2' hw9 x0 x1 x2 x3 x4
                  go_wp2_with fail
                  exact doorP_ok D9.out rfl rfl (HYES _ HY.out _ D9.out.low)
              · rw [decide_eq_false c4] at hq6
                have C4 := Lib.hid c4
                clear c4
                refine held_take 23 ?_ rfl (by kernel_rfl) (by kernel_rfl) (by kernel_rfl) (by intro c a w h; exact put24 (k := 55) (by decide) (by decide) h) (Or.inl ⟨by kernel_rfl, ?_⟩) SE.out ?_
                rotate_left 1
                · intro u hu; obtain ⟨hu1, hu2⟩ := hu; obtain ⟨x0, x1, x2, x3, x4⟩ := rowCells hu1; obtain ⟨l2, l4⟩ := hu2; replace l4 := l4 h4L; go_simp; first | done | with_reducible rfl
                try simp only [Act.put, nA, nB, nC, nD, nE, nF]
                refine held_take 24 ?_ rfl (by kernel_rfl) (by kernel_rfl) (by kernel_rfl) (by intro c a w h; exact put24 (k := 56) (by decide) (by decide) h) (Or.inl ⟨by kernel_rfl, ?_⟩) SE.out ?_
                rotate_left 1
                · intro u hu; obtain ⟨hu1, hu2⟩ := hu; obtain ⟨x0, x1, x2, x3, x4⟩ := rowCells hu1; obtain ⟨l2, l4⟩ := hu2; replace l4 := l4 h4L; go_simp; first | done | with_reducible rfl
                try simp only [Act.put, nA, nB, nC, nD, nE, nF]
                refine held_take 25 ?_ rfl (by kernel_rfl) (by kernel_rfl) (by kernel_rfl) (by intro c a w h; exact put24 (k := 57) (by decide) (by decide) h) (Or.inl ⟨by kernel_rfl, ?_⟩) SE.out ?_
                rotate_left 1
                · intro u hu; obtain ⟨hu1, hu2⟩ := hu; obtain ⟨x0, x1, x2, x3, x4⟩ := rowCells hu1; obtain ⟨l2, l4⟩ := hu2; replace l4 := l4 h4L; go_simp; first | done | with_reducible rfl
                try simp only [Act.put, nA, nB, nC, nD, nE, nF]
                clear hq6
                refine wpAnyH_done (by kernel_rfl) ?_ _
                have HN2 : Hid (∀ j r', j < k + 1 → rowsD[j]? = some r' → ¬ okP r' L) := Lib.hid (by
                  intro j r' hj hr'
                  by_cases hjk : j = k
                  · subst hjk
                    rw [HRK.out] at hr'
                    cases hr'
                    exact (fun h => h.2.2.elim C3.out C4.out)
                  · exact HN.out j r' (by omega) hr')
                clear hq1
                go_wp2_with fail
                go_roundw
                case rel => exact ⟨k + 1, by omega, by go_num, HN2.out, TF.out⟩
                case measure => simp [intOf]; omega
          · have c5 : ¬ ((sz : Int) = m) := by omega
            have c6 : ((sz : Int) == (m : Int)) = false := beq_eq_false_iff_ne.2 c5
            have c7 : (sz == m) = false := beq_eq_false_iff_ne.2 c2
            have c8 : decide ((sz : Int) = (m : Int)) = false := decide_eq_false c5
            refine held_take 11 ?_ rfl (by kernel_rfl) (by kernel_rfl) (by kernel_rfl) (by intro c a w h; exact put24 (k := 43) (by decide) (by decide) h) (Or.inl ⟨by kernel_rfl, ?_⟩) SE.out ?_
            rotate_left 1
            · intro u hu; obtain ⟨hu1, hu2⟩ := hu; obtain ⟨x0, x1, x2, x3, x4⟩ := rowCells hu1; obtain ⟨l2, l4⟩ := hu2; go_simp; first | done | with_reducible rfl
            try simp only [Act.put, nA, nB, nC, nD, nE, nF]
            refine held_take 12 ?_ rfl (by kernel_rfl) (by kernel_rfl) (by kernel_rfl) (by intro c a w h; exact put24 (k := 44) (by decide) (by decide) h) (Or.inl ⟨by kernel_rfl, ?_⟩) SE.out ?_
            rotate_left 1
            · intro u hu; obtain ⟨hu1, hu2⟩ := hu; obtain ⟨x0, x1, x2, x3, x4⟩ := rowCells hu1; obtain ⟨l2, l4⟩ := hu2; go_simp; first | done | with_reducible rfl
            try simp only [Act.put, nA, nB, nC, nD, nE, nF]
            refine held_take 13 ?_ rfl (by kernel_rfl) (by kernel_rfl) (by kernel_rfl) (by intro c a w h; exact put24 (k := 45) (by decide) (by decide) h) (Or.inl ⟨by kernel_rfl, ?_⟩) SE.out ?_
            rotate_left 1
            · intro u hu; obtain ⟨hu1, hu2⟩ := hu; obtain ⟨x0, x1, x2, x3, x4⟩ := rowCells hu1; obtain ⟨l2, l4⟩ := hu2; go_simp; first | done | with_reducible rfl
            try simp only [Act.put, nA, nB, nC, nD, nE, nF]
            refine held_take 14 undef rfl (by kernel_rfl) (by kernel_rfl) (by kernel_rfl) (by intro c a w h; exact put24 (k := 46) (by decide) (by decide) h) (Or.inr ⟨by kernel_rfl, rfl⟩) SE.out ?_
            try simp only [Act.put, nA, nB, nC, nD, nE, nF]
            refine held_take 15 undef rfl (by kernel_rfl) (by kernel_rfl) (by kernel_rfl) (by intro c a w h; exact put24 (k := 47) (by decide) (by decide) h) (Or.inr ⟨by kernel_rfl, rfl⟩) SE.out ?_
            try simp only [Act.put, nA, nB, nC, nD, nE, nF]
            refine held_take 16 undef rfl (by kernel_rfl) (by kernel_rfl) (by kernel_rfl) (by intro c a w h; exact put24 (k := 48) (by decide) (by decide) h) (Or.inr ⟨by kernel_rfl, rfl⟩) SE.out ?_
            try simp only [Act.put, nA, nB, nC, nD, nE, nF]
            refine held_take 17 undef rfl (by kernel_rfl) (by kernel_rfl) (by kernel_rfl) (by intro c a w h; exact put24 (k := 49) (by decide) (by decide) h) (Or.inr ⟨by kernel_rfl, rfl⟩) SE.out ?_
            try simp only [Act.put, nA, nB, nC, nD, nE, nF]
            refine held_take 18 undef rfl (by kernel_rfl) (by kernel_rfl) (by kernel_rfl) (by intro c a w h; exact put24 (k := 50) (by decide) (by decide) h) (Or.inr ⟨by kernel_rfl, rfl⟩) SE.out ?_
            try simp only [Act.put, nA, nB, nC, nD, nE, nF]
            refine held_take 19 undef rfl (by kernel_rfl) (by kernel_rfl) (by kernel_rfl) (by intro c a w h; exact put24 (k := 51) (by decide) (by decide) h) (Or.inr ⟨by kernel_rfl, rfl⟩) SE.out ?_
            try simp only [Act.put, nA, nB, nC, nD, nE, nF]
            refine held_take 20 undef rfl (by kernel_rfl) (by kernel_rfl) (by kernel_rfl) (by intro c a w h; exact put24 (k := 52) (by decide) (by decide) h) (Or.inr ⟨by kernel_rfl, rfl⟩) SE.out ?_
            try simp only [Act.put, nA, nB, nC, nD, nE, nF]
            refine held_take 21 undef rfl (by kernel_rfl) (by kernel_rfl) (by kernel_rfl) (by intro c a w h; exact put24 (k := 53) (by decide) (by decide) h) (Or.inr ⟨by kernel_rfl, rfl⟩) SE.out ?_
            try simp only [Act.put, nA, nB, nC, nD, nE, nF]
            refine held_take 22 undef rfl (by kernel_rfl) (by kernel_rfl) (by kernel_rfl) (by intro c a w h; exact put24 (k := 54) (by decide) (by decide) h) (Or.inr ⟨by kernel_rfl, rfl⟩) SE.out ?_
            try simp only [Act.put, nA, nB, nC, nD, nE, nF]
            refine held_take 23 undef rfl (by kernel_rfl) (by kernel_rfl) (by kernel_rfl) (by intro c a w h; exact put24 (k := 55) (by decide) (by decide) h) (Or.inr ⟨by kernel_rfl, rfl⟩) SE.out ?_
            try simp only [Act.put, nA, nB, nC, nD, nE, nF]
            refine held_take 24 undef rfl (by kernel_rfl) (by kernel_rfl) (by kernel_rfl) (by intro c a w h; exact put24 (k := 56) (by decide) (by decide) h) (Or.inr ⟨by kernel_rfl, rfl⟩) SE.out ?_
            try simp only [Act.put, nA, nB, nC, nD, nE, nF]
            refine held_take 25 ?_ rfl (by kernel_rfl) (by kernel_rfl) (by kernel_rfl) (by intro c a w h; exact put24 (k := 57) (by decide) (by decide) h) (Or.inl ⟨by kernel_rfl, ?_⟩) SE.out ?_
            rotate_left 1
            · intro u hu; obtain ⟨hu1, hu2⟩ := hu; obtain ⟨x0, x1, x2, x3, x4⟩ := rowCells hu1; obtain ⟨l2, l4⟩ := hu2; go_simp; first | done | with_reducible rfl
            try simp only [Act.put, nA, nB, nC, nD, nE, nF]
            refine wpAnyH_done (by kernel_rfl) ?_ _
            have HN2 : Hid (∀ j r', j < k + 1 → rowsD[j]? = some r' → ¬ okP r' L) := Lib.hid (by
              intro j r' hj hr'
              by_cases hjk : j = k
              · subst hjk
                rw [HRK.out] at hr'
                cases hr'
                exact (fun h => c2 (by rw [← HSR.out, ← HM.out]; exact h.2.1))
              · exact HN.out j r' (by omega) hr')
            clear hq1
            go_wp2_with fail
            go_roundw
            case rel => exact ⟨k + 1, by omega, by go_num, HN2.out, TF.out⟩
            case measure => simp [intOf]; omega
        · rw [decide_eq_false c1] at hq1
          refine held_take 0 ?_ rfl (by kernel_rfl) (by kernel_rfl) (by kernel_rfl) (by intro c a w h; exact put24 (k := 32) (by decide) (by decide) h) (Or.inl ⟨by kernel_rfl, ?_⟩) SD.out ?_
          rotate_left 1
          · intro u hu; obtain ⟨hu1, hu2⟩ := hu; obtain ⟨x0, x1, x2, x3, x4⟩ := rowCells hu1; obtain ⟨l2, l4⟩ := hu2; go_simp; first | done | with_reducible rfl
          try simp only [Act.put, nA, nB, nC, nD, nE, nF]
          refine held_take 1 ?_ rfl (by kernel_rfl) (by kernel_rfl) (by kernel_rfl) (by intro c a w h; exact put24 (k := 33) (by decide) (by decide) h) (Or.inl ⟨by kernel_rfl, ?_⟩) SD.out ?_
          rotate_left 1
          · intro u hu; obtain ⟨hu1, hu2⟩ := hu; obtain ⟨x0, x1, x2, x3, x4⟩ := rowCells hu1; obtain ⟨l2, l4⟩ := hu2; go_simp; first | done | with_reducible rfl
          try simp only [Act.put, nA, nB, nC, nD, nE, nF]
          refine held_take 2 ?_ rfl (by kernel_rfl) (by kernel_rfl) (by kernel_rfl) (by intro c a w h; exact put24 (k := 34) (by decide) (by decide) h) (Or.inl ⟨by kernel_rfl, ?_⟩) SD.out ?_
          rotate_left 1
          · intro u hu; obtain ⟨hu1, hu2⟩ := hu; obtain ⟨x0, x1, x2, x3, x4⟩ := rowCells hu1; obtain ⟨l2, l4⟩ := hu2; go_simp; first | done | with_reducible rfl
          try simp only [Act.put, nA, nB, nC, nD, nE, nF]
          refine held_take 3 ?_ rfl (by kernel_rfl) (by kernel_rfl) (by kernel_rfl) (by intro c a w h; exact put24 (k := 35) (by decide) (by decide) h) (Or.inl ⟨by kernel_rfl, ?_⟩) SD.out ?_
          rotate_left 1
          · intro u hu; obtain ⟨hu1, hu2⟩ := hu; obtain ⟨x0, x1, x2, x3, x4⟩ := rowCells hu1; obtain ⟨l2, l4⟩ := hu2; go_simp; first | done | with_reducible rfl
          try simp only [Act.put, nA, nB, nC, nD, nE, nF]
          refine held_take 4 ?_ rfl (by kernel_rfl) (by kernel_rfl) (by kernel_rfl) (by intro c a w h; exact put24 (k := 36) (by decide) (by decide) h) (Or.inl ⟨by kernel_rfl, ?_⟩) SD.out ?_
          rotate_left 1
          · intro u hu; obtain ⟨hu1, hu2⟩ := hu; obtain ⟨x0, x1, x2, x3, x4⟩ := rowCells hu1; obtain ⟨l2, l4⟩ := hu2; go_simp; first | done | with_reducible rfl
          try simp only [Act.put, nA, nB, nC, nD, nE, nF]
          refine held_take 5 ?_ rfl (by kernel_rfl) (by kernel_rfl) (by kernel_rfl) (by intro c a w h; exact put24 (k := 37) (by decide) (by decide) h) (Or.inl ⟨by kernel_rfl, ?_⟩) SD.out ?_
          rotate_left 1
          · intro u hu; obtain ⟨hu1, hu2⟩ := hu; obtain ⟨x0, x1, x2, x3, x4⟩ := rowCells hu1; obtain ⟨l2, l4⟩ := hu2; go_simp; first | done | with_reducible rfl
          try simp only [Act.put, nA, nB, nC, nD, nE, nF]
          refine held_take 6 ?_ rfl (by kernel_rfl) (by kernel_rfl) (by kernel_rfl) (by intro c a w h; exact put24 (k := 38) (by decide) (by decide) h) (Or.inl ⟨by kernel_rfl, ?_⟩) SD.out ?_
          rotate_left 1
          · intro u hu; obtain ⟨hu1, hu2⟩ := hu; obtain ⟨x0, x1, x2, x3, x4⟩ := rowCells hu1; obtain ⟨l2, l4⟩ := hu2; go_simp; first | done | with_reducible rfl
          try simp only [Act.put, nA, nB, nC, nD, nE, nF]
          refine held_take 7 undef rfl (by kernel_rfl) (by kernel_rfl) (by kernel_rfl) (by intro c a w h; exact put24 (k := 39) (by decide) (by decide) h) (Or.inr ⟨by kernel_rfl, rfl⟩) SD.out ?_
          try simp only [Act.put, nA, nB, nC, nD, nE, nF]
          refine held_take 8 undef rfl (by kernel_rfl) (by kernel_rfl) (by kernel_rfl) (by intro c a w h; exact put24 (k := 40) (by decide) (by decide) h) (Or.inr ⟨by kernel_rfl, rfl⟩) SD.out ?_
          try simp only [Act.put, nA, nB, nC, nD, nE, nF]
          refine held_take 9 undef rfl (by kernel_rfl) (by kernel_rfl) (by kernel_rfl) (by intro c a w h; exact put24 (k := 41) (by decide) (by decide) h) (Or.inr ⟨by kernel_rfl, rfl⟩) SD.out ?_
          try simp only [Act.put, nA, nB, nC, nD, nE, nF]
          refine held_take 10 undef rfl (by kernel_rfl) (by kernel_rfl) (by kernel_rfl) (by intro c a w h; exact put24 (k := 42) (by decide) (by decide) h) (Or.inr ⟨by kernel_rfl, rfl⟩) SD.out ?_
          try simp only [Act.put, nA, nB, nC, nD, nE, nF]
          refine held_take 11 undef rfl (by kernel_rfl) (by kernel_rfl) (by kernel_rfl) (by intro c a w h; exact put24 (k := 43) (by decide) (by decide) h) (Or.inr ⟨by kernel_rfl, rfl⟩) SD.out ?_
          try simp only [Act.put, nA, nB, nC, nD, nE, nF]
          refine held_take 12 ?_ rfl (by kernel_rfl) (by kernel_rfl) (by kernel_rfl) (by intro c a w h; exact put24 (k := 44) (by decide) (by decide) h) (Or.inl ⟨by kernel_rfl, ?_⟩) SD.out ?_
          rotate_left 1
          · intro u hu; obtain ⟨hu1, hu2⟩ := hu; obtain ⟨x0, x1, x2, x3, x4⟩ := rowCells hu1; obtain ⟨l2, l4⟩ := hu2; go_simp; first | done | with_reducible rfl
          try simp only [Act.put, nA, nB, nC, nD, nE, nF]
          refine held_take 13 ?_ rfl (by kernel_rfl) (by kernel_rfl) (by kernel_rfl) (by intro c a w h; exact put24 (k := 45) (by decide) (by decide) h) (Or.inl ⟨by kernel_rfl, ?_⟩) SD.out ?_
          rotate_left 1
          · intro u hu; obtain ⟨hu1, hu2⟩ := hu; obtain ⟨x0, x1, x2, x3, x4⟩ := rowCells hu1; obtain ⟨l2, l4⟩ := hu2; go_simp; first | done | with_reducible rfl
          try simp only [Act.put, nA, nB, nC, nD, nE, nF]
          refine held_take 14 undef rfl (by kernel_rfl) (by kernel_rfl) (by kernel_rfl) (by intro c a w h; exact put24 (k := 46) (by decide) (by decide) h) (Or.inr ⟨by kernel_rfl, rfl⟩) SD.out ?_
          try simp only [Act.put, nA, nB, nC, nD, nE, nF]
          refine held_take 15 undef rfl (by kernel_rfl) (by kernel_rfl) (by kernel_rfl) (by intro c a w h; exact put24 (k := 47) (by decide) (by decide) h) (Or.inr ⟨by kernel_rfl, rfl⟩) SD.out ?_
          try simp only [Act.put, nA, nB, nC, nD, nE, nF]
          refine held_take 16 undef rfl (by kernel_rfl) (by kernel_rfl) (by kernel_rfl) (by intro c a w h; exact put24 (k := 48) (by decide) (by decide) h) (Or.inr ⟨by kernel_rfl, rfl⟩) SD.out ?_
          try simp only [Act.put, nA, nB, nC, nD, nE, nF]
          refine held_take 17 undef rfl (by kernel_rfl) (by kernel_rfl) (by kernel_rfl) (by intro c a w h; exact put24 (k := 49) (by decide) (by decide) h) (Or.inr ⟨by kernel_rfl, rfl⟩) SD.out ?_
          try simp only [Act.put, nA, nB, nC, nD, nE, nF]
          refine held_take 18 undef rfl (by kernel_rfl) (by kernel_rfl) (by kernel_rfl) (by intro c a w h; exact put24 (k := 50) (by decide) (by decide) h) (Or.inr ⟨by kernel_rfl, rfl⟩) SD.out ?_
          try simp only [Act.put, nA, nB, nC, nD, nE, nF]
          refine held_take 19 undef rfl (by kernel_rfl) (by kernel_rfl) (by kernel_rfl) (by intro c a w h; exact put24 (k := 51) (by decide) (by decide) h) (Or.inr ⟨by kernel_rfl, rfl⟩) SD.out ?_
          try simp only [Act.put, nA, nB, nC, nD, nE, nF]
          refine held_take 20 undef rfl (by kernel_rfl) (by kernel_rfl) (by kernel_rfl) (by intro c a w h; exact put24 (k := 52) (by decide) (by decide) h) (Or.inr ⟨by kernel_rfl, rfl⟩) SD.out ?_
          try simp only [Act.put, nA, nB, nC, nD, nE, nF]
          refine held_take 21 undef rfl (by kernel_rfl) (by kernel_rfl) (by kernel_rfl) (by intro c a w h; exact put24 (k := 53) (by decide) (by decide) h) (Or.inr ⟨by kernel_rfl, rfl⟩) SD.out ?_
          try simp only [Act.put, nA, nB, nC, nD, nE, nF]
          refine held_take 22 undef rfl (by kernel_rfl) (by kernel_rfl) (by kernel_rfl) (by intro c a w h; exact put24 (k := 54) (by decide) (by decide) h) (Or.inr ⟨by kernel_rfl, rfl⟩) SD.out ?_
          try simp only [Act.put, nA, nB, nC, nD, nE, nF]
          refine held_take 23 undef rfl (by kernel_rfl) (by kernel_rfl) (by kernel_rfl) (by intro c a w h; exact put24 (k := 55) (by decide) (by decide) h) (Or.inr ⟨by kernel_rfl, rfl⟩) SD.out ?_
          try simp only [Act.put, nA, nB, nC, nD, nE, nF]
          refine held_take 24 undef rfl (by kernel_rfl) (by kernel_rfl) (by kernel_rfl) (by intro c a w h; exact put24 (k := 56) (by decide) (by decide) h) (Or.inr ⟨by kernel_rfl, rfl⟩) SD.out ?_
          try simp only [Act.put, nA, nB, nC, nD, nE, nF]
          refine held_take 25 ?_ rfl (by kernel_rfl) (by kernel_rfl) (by kernel_rfl) (by intro c a w h; exact put24 (k := 57) (by decide) (by decide) h) (Or.inl ⟨by kernel_rfl, ?_⟩) SD.out ?_
          rotate_left 1
          · intro u hu; obtain ⟨hu1, hu2⟩ := hu; obtain ⟨x0, x1, x2, x3, x4⟩ := rowCells hu1; obtain ⟨l2, l4⟩ := hu2; go_simp; first | done | with_reducible rfl
          try simp only [Act.put, nA, nB, nC, nD, nE, nF]
          refine wpAnyH_done (by kernel_rfl) ?_ _
          have HN2 : Hid (∀ j r', j < k + 1 → rowsD[j]? = some r' → ¬ okP r' L) := Lib.hid (by
            intro j r' hj hr'
            by_cases hjk : j = k
            · subst hjk
              rw [HRK.out] at hr'
              cases hr'
              exact (fun h => c1 h.1)
            · exact HN.out j r' (by omega) hr')
          clear hq1
          go_wp2_with fail
          go_roundw
          case rel => exact ⟨k + 1, by omega, by go_num, HN2.out, TE.out⟩
          case measure => simp [intOf]; omega
      · have HRO : Hid (parseL L = none) := Lib.hid (by
          unfold parseL
          rw [if_neg (by have := HM.out; omega), rowOf_no (fun r hr => by
            obtain ⟨j, hj, hjr⟩ := List.mem_iff_getElem.1 hr
            have hj13 : j < 13 := hj
            exact HN.out j r (by omega) (by rw [List.getElem?_eq_getElem hj, hjr]))])
        have D8 := Lib.hid (D6.out.turn HT.out)
        obtain ⟨y0, y1, y2, y3, y4, y5, y6, y7, y8⟩ := evCells0 D8.out.h1
        obtain ⟨z0, z1, z2, z3, z4, z5, z6, z7, z8⟩ := evFree D8.out.h1
        have D9 := Lib.hid (D8.out.set zeroE 5)
        have h2' : (set9 wr n zeroE).heap[n + 1]? = some (.cells #[.int .i64 0] 37) := set9_blk D8.out.h2 (fun e => D8.out.n12 e.symm)
        obtain ⟨w9, hw9⟩ : ∃ w9, set9 wr n zeroE = w9 := ⟨_, rfl⟩
        rw [hw9] at h2' D9
        have hw9' : (((((((((wr.setCell ⟨n, 0, none⟩ (.int .i64 0)).setCell ⟨n, 1, none⟩ (.int .i64 0)).setCell ⟨n, 2, none⟩ (.string ⟨#[]⟩)).setCell ⟨n, 3, none⟩ (.int .i64 0)).setCell ⟨n, 4, none⟩ (.string ⟨#[]⟩)).setCell ⟨n, 5, none⟩ (.int .i64 0)).setCell ⟨n, 6, none⟩ (.int .i64 0)).setCell ⟨n, 7, none⟩ (.int .i64 0)).setCell ⟨n, 8, none⟩ (.string ⟨#[]⟩)) = w9 := hw9
        have c2' : w9.cell? ⟨n + 1, 0, none⟩ = some (.int .i64 0) := cell_blk (o := 0) h2'
        have z9 := frozen_blk (o := 0) h2'
        clear h2' hw9
        go_wp2_with fail
        exact doorP_ok D9.out rfl rfl (HNO HRO.out _ D9.out.low)
  · have h2i : decide ((2 : Int) < (m : Int)) = false := decide_eq_false (by omega)
    go_wp2_with fail
    refine (need_no _).mono ?_
    rintro e wn ⟨rfl, rfl⟩
    exact doorP_bad D5.out rfl rfl (HNO (by unfold parseL; rw [if_pos (by have := HM.out; omega)]))
theorem parse_any {s : Bs} (hl : s.length ≤ 4000000) {w : World} (hw : Laid w) : Calls Tryz.prog 24 #[.string (BT s)] w (ParseP w s) := by
  cases h : cutIdle s with
  | none => exact parse_row hl h hw
  | some t => exact parse_idle hl h hw
end
section
open Go.RowKit Go.Shelf

def workE : EventD := ⟨2, 2, [48], 7, [99, 48], 1, 0, -5, []⟩
theorem work_text : textC workE = ([50, 32, 48, 64, 55, 32, 115, 101, 110, 116, 32, 99, 48, 58, 49, 32, 119, 111, 114, 100, 32, 45, 53], 0) := by decide +kernel
def workF : EventD := ⟨3, 0, [48, 46, 49], 3, [48, 43, 50], 0, 2, 0, [99, 49, 58, 49]⟩
theorem work_parse : parseC [48, 32, 48, 46, 49, 64, 51, 32, 103, 111, 116, 32, 48, 43, 50, 58, 48, 32, 101, 110, 100, 32, 99, 49, 58, 49] = (workF, 0) := by decide +kernel
theorem work_end : endA [48, 46, 49, 43, 50, 58, 49] = #[.string ⟨#[48, 46, 49, 43, 50]⟩, .int .i64 1, .bool true] := by
  rw [endA_some (c := [48, 46, 49, 43, 50]) (n := 1) (by decide +kernel)]
  rfl
theorem work_less : lessL [48, 46, 50] [48, 46, 49, 48] = true := by decide +kernel
theorem work_parent : parentL [51, 46, 48, 46, 49, 50] = [51, 46, 48] := by decide +kernel
end
section
open Go.RowKit Go.Shelf

theorem work1 {w : World} (h : Laid w) : Calls Tryz.prog 21 #[.agg #[.int .i64 2, .int .i64 2, .string ⟨#[48]⟩, .int .i64 7, .string ⟨#[99, 48]⟩, .int .i64 1, .int .i64 0, .int .i64 (-5), .string ⟨#[]⟩]] w fun e w' => e = .returned (.tuple #[.string ⟨#[50, 32, 48, 64, 55, 32, 115, 101, 110, 116, 32, 99, 48, 58, 49, 32, 119, 111, 114, 100, 32, 45, 53]⟩, .int .i64 0]) ∧ Turn Nn w w' := by
  have hsm : ESmall workE := ⟨by decide, by decide, by decide, ⟨by unfold Int64; decide, by unfold Int64; decide, by unfold Int64; decide⟩, by unfold Int64; decide, by unfold Int64; decide, by unfold Int64; decide⟩
  have := text_any hsm h
  unfold TextP at this
  rw [work_text] at this
  exact this
theorem work2 {w : World} (h : Laid w) : Calls Tryz.prog 24 #[.string ⟨#[48, 32, 48, 46, 49, 64, 51, 32, 103, 111, 116, 32, 48, 43, 50, 58, 48, 32, 101, 110, 100, 32, 99, 49, 58, 49]⟩] w fun e w' => e = .returned (.tuple #[.agg #[.int .i64 3, .int .i64 0, .string ⟨#[48, 46, 49]⟩, .int .i64 3, .string ⟨#[48, 43, 50]⟩, .int .i64 0, .int .i64 2, .int .i64 0, .string ⟨#[99, 49, 58, 49]⟩], .int .i64 0]) ∧ Turn Nn w w' := by
  have := parse_any (s := [48, 32, 48, 46, 49, 64, 51, 32, 103, 111, 116, 32, 48, 43, 50, 58, 48, 32, 101, 110, 100, 32, 99, 49, 58, 49]) (by decide) h
  unfold ParseP at this
  rw [work_parse] at this
  exact this
theorem work3 {w : World} (h : Laid w) : Calls Tryz.prog 10 #[.string ⟨#[48, 46, 49, 43, 50, 58, 49]⟩] w fun e w' => e = .returned (.tuple #[.string ⟨#[48, 46, 49, 43, 50]⟩, .int .i64 1, .bool true]) ∧ Turn Nn w w' := by
  have := end_any (l := [48, 46, 49, 43, 50, 58, 49]) (by decide) h
  rw [work_end] at this
  exact this
theorem work4 {w : World} (h : Laid w) : Calls Tryz.prog 18 #[.string ⟨#[48, 46, 50]⟩, .string ⟨#[48, 46, 49, 48]⟩] w fun e w' => e = .returned (.bool true) ∧ Turn Nn w w' := by
  have := less_any (a := [48, 46, 50]) (b := [48, 46, 49, 48]) (by decide) (by decide) h
  rw [work_less] at this
  exact this
theorem work5 {w : World} (h : Laid w) : Calls Tryz.prog 16 #[.string ⟨#[51, 46, 48, 46, 49, 50]⟩] w fun e w' => e = .returned (.string ⟨#[51, 46, 48]⟩) ∧ Turn Nn w w' := by
  have := parent_any (l := [51, 46, 48, 46, 49, 50]) (by decide) h
  rw [work_parent] at this
  exact this
set_option maxRecDepth 100000 in
set_option maxHeartbeats 16000000 in
theorem works_any {w : World} (hw : Laid w) : Calls Tryz.prog 20 #[] w fun e w' => e = .returned (.bool true) ∧ Turn Nn w w' := by
  have HW := Lib.hid hw
  have heq : ∀ W, (binOp BinOp.eql 34 (.agg #[.int .i64 3, .int .i64 0, .string ⟨#[48, 46, 49]⟩, .int .i64 3, .string ⟨#[48, 43, 50]⟩, .int .i64 0, .int .i64 2, .int .i64 0, .string ⟨#[99, 49, 58, 49]⟩]) (.agg #[.int .i64 3, .int .i64 0, .string ⟨#[48, 46, 49]⟩, .int .i64 3, .string ⟨#[48, 43, 50]⟩, .int .i64 0, .int .i64 2, .int .i64 0, .string ⟨#[99, 49, 58, 49]⟩])).run Tryz.prog W = .ok (.bool true) W := fun W => (ev_eql workF workF W).trans (by rw [decide_eq_true rfl])
  clear hw
  go_enter Tryz.func20, Tryz.ntmps20
  go_wp2_with fail
  refine (work1 HW.out).mono ?_
  rintro e w1 ⟨rfl, t1⟩
  have T1 := Lib.hid t1
  clear t1
  go_wp2_with fail
  refine (work2 (HW.out.turn T1.out)).mono ?_
  rintro e w2 ⟨rfl, t2⟩
  have T2 := Lib.hid (T1.out.trans t2)
  clear t2
  obtain ⟨w3, e3⟩ : ∃ w3, w2.alloc (.cells (evC zeroE) 34) = w3 := ⟨_, rfl⟩
  obtain ⟨b3, t3⟩ := alloc1 e3
  obtain ⟨q, hq⟩ : ∃ q, w2.heap.size = q := ⟨_, rfl⟩
  rw [hq] at b3
  have e3' : w2.alloc (.cells #[.int .i64 0, .int .i64 0, .string ⟨#[]⟩, .int .i64 0, .string ⟨#[]⟩, .int .i64 0, .int .i64 0, .int .i64 0, .string ⟨#[]⟩] 34) = w3 := e3
  obtain ⟨y0, y1, y2, y3, y4, y5, y6, y7, y8⟩ := evCells0 b3
  obtain ⟨z0, z1, z2, z3, z4, z5, z6, z7, z8⟩ := evFree b3
  obtain ⟨w4, e4⟩ : ∃ w4, set9 w3 q workF = w4 := ⟨_, rfl⟩
  have e4' : (((((((((w3.setCell ⟨q, 0, none⟩ (.int .i64 3)).setCell ⟨q, 1, none⟩ (.int .i64 0)).setCell ⟨q, 2, none⟩ (.string ⟨#[48, 46, 49]⟩)).setCell ⟨q, 3, none⟩ (.int .i64 3)).setCell ⟨q, 4, none⟩ (.string ⟨#[48, 43, 50]⟩)).setCell ⟨q, 5, none⟩ (.int .i64 0)).setCell ⟨q, 6, none⟩ (.int .i64 2)).setCell ⟨q, 7, none⟩ (.int .i64 0)).setCell ⟨q, 8, none⟩ (.string ⟨#[99, 49, 58, 49]⟩)) = w4 := e4
  have E4 : Hid (EvAt w4 q workF) := Lib.hid (by rw [← e4]; exact set9_at b3 workF)
  have T4 : Hid (Turn Nn w w4) := Lib.hid (by rw [← e4]; exact T2.out.trans (t3.off (set9_turn (B := q) workF) (by omega)))
  clear e3 e4 b3 t3
  go_wp2_with fail
  refine (work3 (HW.out.turn T4.out)).mono ?_
  rintro e w5 ⟨rfl, t5⟩
  have T5 := Lib.hid (T4.out.trans t5)
  have E5 := Lib.hid (E4.out.turn t5)
  clear t5 y0 y1 y2 y3 y4 y5 y6 y7 y8 z0 z1 z2 z3 z4 z5 z6 z7 z8 e3' e4' hq
  obtain ⟨y0, y1, y2, y3, y4, y5, y6, y7, y8⟩ : w5.cell? ⟨q, 0, none⟩ = some (.int .i64 3) ∧ w5.cell? ⟨q, 1, none⟩ = some (.int .i64 0) ∧ w5.cell? ⟨q, 2, none⟩ = some (.string ⟨#[48, 46, 49]⟩) ∧ w5.cell? ⟨q, 3, none⟩ = some (.int .i64 3) ∧ w5.cell? ⟨q, 4, none⟩ = some (.string ⟨#[48, 43, 50]⟩) ∧ w5.cell? ⟨q, 5, none⟩ = some (.int .i64 0) ∧ w5.cell? ⟨q, 6, none⟩ = some (.int .i64 2) ∧ w5.cell? ⟨q, 7, none⟩ = some (.int .i64 0) ∧ w5.cell? ⟨q, 8, none⟩ = some (.string ⟨#[99, 49, 58, 49]⟩) := evCells E5.out
  go_wp2_with fail
  refine (work4 (HW.out.turn T5.out)).mono ?_
  rintro e w6 ⟨rfl, t6⟩
  have T6 := Lib.hid (T5.out.trans t6)
  clear t6 y0 y1 y2 y3 y4 y5 y6 y7 y8
  go_wp2_with fail
  refine (work5 (HW.out.turn T6.out)).mono ?_
  rintro e w7 ⟨rfl, t7⟩
  have T7 := Lib.hid (T6.out.trans t7)
  clear t7
  go_wp2_with fail
  go_ret
  exact ⟨rfl, T7.out⟩
end
end Go.Proofs.YtpbjblbeepbklaaGreatDoor
