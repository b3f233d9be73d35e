/- The program's walks: how a row reads words (two fields). Printed by gen_wu.py. -/
import Derived.Test.YtpbjblbeepbklaaGreatDoorKk
namespace Go.Proofs.YtpbjblbeepbklaaGreatDoor
set_option linter.unusedSimpArgs false
set_option linter.unusedVariables false
open Go.RowKit Go.Shelf

set_option maxRecDepth 100000 in
set_option maxHeartbeats 40000000 in
theorem row_read_two_word {r : RowD} (hf : r.flds = [.place, .word]) {x y z t m u : Bs} {v : Value} {w : World} {lb cap : Nat} (hL : WAt w lb [x, y, z, t, m, u]) (hx : x.length ≤ 4000000) (hy : y.length ≤ 4000000) (ht : t.length ≤ 4000000) (hu : u.length ≤ 4000000) (hcap : 6 ≤ cap) (hv : FSl w v r.flds) (hw : Laid w) :
    Calls Tryz.prog 46 #[.agg (rowA r v), .slice (some ⟨lb, 0, none⟩) 6 cap] w (ReadX w (readR r [x, y, z, t, m, u])) := by
  obtain ⟨X, hX⟩ : ∃ X, readR r [x, y, z, t, m, u] = X := ⟨_, rfl⟩
  rw [hX]
  have HX := Lib.hid hX
  have HW := Lib.hid hw
  have HF := Lib.hid hf
  have HL := Lib.hid hL
  have l0 : w.cell? ⟨lb, 0, none⟩ = some (.string (BT x)) := hL 0 (by simp)
  have l1 : w.cell? ⟨lb, 1, none⟩ = some (.string (BT y)) := hL 1 (by simp)
  have HLB := Lib.hid (World.block_lt_of_cell? _ _ l0)
  have HS4 : Hid (3 < w.heap.size) := Lib.hid (by obtain ⟨a, b, h⟩ := hw.rng; exact World.block_lt_of_cell? _ _ h)
  have HCU := fun w (h : Laid w) => Lib.hid (cut_any hy h)
  have HWX := fun w (h : Laid w) => Lib.hid (whole_any hx h)
  rw [hf] at hv
  clear hX hw hf hL
  obtain ⟨b, _, _, _, _, hve, hb, ⟨rfl, rfl⟩, ⟨rfl, rfl⟩⟩ := hv
  have HVE := Lib.hid hve
  have HBF := Lib.hid hb
  clear hve hb
  obtain ⟨w0, hw0⟩ : ∃ w0, w.alloc (.cells (rowA r v) 70) = w0 := ⟨_, rfl⟩
  obtain ⟨bR, tR⟩ := alloc1 hw0
  obtain ⟨w1, hw1⟩ : ∃ w1, w0.alloc (.cells (evC zeroE) 34) = w1 := ⟨_, rfl⟩
  obtain ⟨bE, tE⟩ := alloc1 hw1
  have hs0 : w0.heap.size = w.heap.size + 1 := by rw [← hw0, World.size_alloc]
  rw [hs0] at bE
  obtain ⟨RB, hRB⟩ : ∃ RB, w.heap.size = RB := ⟨_, rfl⟩
  have HRB := Lib.hid hRB
  have R1 : Hid (RowBox w1 RB r v) := Lib.hid (by rw [← hRB]; exact (tE.block _ (heap_lt bR) (fun h => h)).trans bR)
  have E1 : Hid (EvAt w1 (RB + 1) zeroE) := Lib.hid (by rw [← hRB]; exact bE)
  have T1 := Lib.hid (tR.trans tE)
  have m0 := cell_turn T1.out l0
  have m1 := cell_turn T1.out l1
  have M0 := Lib.hid m0
  have hw0' : w.alloc (.cells #[.int .i64 r.kind, .int .i64 r.tag, .string (BT r.word), .string (BT r.msg), v] 70) = w0 := hw0
  have hw1' : w0.alloc (.cells #[.int .i64 0, .int .i64 0, .string ⟨#[]⟩, .int .i64 0, .string ⟨#[]⟩, .int .i64 0, .int .i64 0, .int .i64 0, .string ⟨#[]⟩] 34) = w1 := hw1
  clear bR tR bE tE hw0 hw1 l0 l1 m0
  unfold rowA
  go_enter Tryz.func46, Tryz.ntmps46
  go_wp2_with fail
  refine (HCU _ (HW.out.turn T1.out)).out.mono ?_
  rintro e w2 ⟨rfl, t2⟩
  have T2 := Lib.hid (T1.out.trans t2)
  have R2 := Lib.hid (R1.out.turn t2)
  have E2 := Lib.hid (E1.out.turn t2)
  have M2 := Lib.hid (cell_turn t2 M0.out)
  clear t2 m1
  unfold cutA
  cases hcu : cutC 64 y with
  | none =>
    obtain rfl : X = none := by rw [← HX.out]; unfold readR; rw [show readH r (([x, y, z, t, m, u] : List Bs)[0]?.getD []) (([x, y, z, t, m, u] : List Bs)[1]?.getD []) = none from readH_none1 hcu]
    clear hcu
    go_wp2_with fail
    refine (need_no _).mono ?_
    rintro e wn ⟨rfl, rfl⟩
    exact ⟨rfl, rfl, T2.out⟩
  | some p =>
    obtain ⟨a, p⟩ := p
    have hya := (cutC_some hcu).1
    have hal : a.length ≤ 4000000 := by rw [hya] at hy; simp at hy; omega
    have hpl : p.length ≤ 4000000 := by rw [hya] at hy; simp at hy; omega
    have HCA := Lib.hid hcu
    have HAC := fun w (h : Laid w) => Lib.hid (actor_any hal h)
    have HWP := fun w (h : Laid w) => Lib.hid (whole_any hpl h)
    clear hcu hya hal hpl
    simp only
    cases hac : actorL a with
    | false =>
      obtain rfl : X = none := by rw [← HX.out]; unfold readR; rw [show readH r (([x, y, z, t, m, u] : List Bs)[0]?.getD []) (([x, y, z, t, m, u] : List Bs)[1]?.getD []) = none from readH_none2 HCA.out hac]
      simp only [hac] at HAC
      clear hac
      go_wp2_with fail
      refine (HAC _ (HW.out.turn T2.out)).out.mono ?_
      rintro e w3 ⟨rfl, t3⟩
      have T3 := Lib.hid (T2.out.trans t3)
      clear t3
      go_wp2_with fail
      refine (need_no _).mono ?_
      rintro e wn ⟨rfl, rfl⟩
      exact ⟨rfl, rfl, T3.out⟩
    | true =>
      have HA := Lib.hid hac
      simp only [hac] at HAC
      clear hac
      go_wp2_with fail
      refine (HAC _ (HW.out.turn T2.out)).out.mono ?_
      rintro e w3 ⟨rfl, t3⟩
      have T3 := Lib.hid (T2.out.trans t3)
      have R3 := Lib.hid (R2.out.turn t3)
      have E3 := Lib.hid (E2.out.turn t3)
      have M3 := Lib.hid (cell_turn t3 M2.out)
      clear t3
      go_wp2_with fail
      refine (need_yes _).mono ?_
      rintro e w3 ⟨rfl, rfl⟩
      go_upto_region 3 with (fail)
      refine held_begin (fun u => RowBox u RB r v ∧ u.cell? ⟨lb, 0, none⟩ = some (.string (BT x))) (by kernel_rfl) ?_
      generalize hwd : World.drew w3 = wd
      have VD : Hid (Turn Nn w wd) := Lib.hid (by rw [← hwd]; exact T3.out.drew)
      have SD : Hid (RowBox wd RB r v ∧ wd.cell? ⟨lb, 0, none⟩ = some (.string (BT x))) := Lib.hid (by rw [← hwd]; exact ⟨R3.out, M3.out⟩)
      have ED : Hid (EvAt wd (RB + 1) zeroE) := Lib.hid (by rw [← hwd]; exact E3.out)
      clear hwd
      refine held_take 0 ?_ rfl (by kernel_rfl) (by kernel_rfl) (by kernel_rfl) (fun _ _ _ h => h) (Or.inl ⟨by kernel_rfl, ?_⟩) SD.out ?_
      rotate_left 1
      · intro u hu; obtain ⟨hu1, hu2⟩ := hu; obtain ⟨x0, x1, x2, x3, x4⟩ := rowCells hu1; go_simp; first | done | with_reducible rfl
      try simp only [Act.put, nA, nB, nC, nD, nE, nF]
      refine held_take 1 ?_ rfl (by kernel_rfl) (by kernel_rfl) (by kernel_rfl) (fun _ _ _ h => h) (Or.inl ⟨by kernel_rfl, ?_⟩) SD.out ?_
      rotate_left 1
      · intro u hu; obtain ⟨hu1, hu2⟩ := hu; obtain ⟨x0, x1, x2, x3, x4⟩ := rowCells hu1; go_simp; first | done | with_reducible rfl
      try simp only [Act.put, nA, nB, nC, nD, nE, nF]
      refine held_take 2 ?_ rfl (by kernel_rfl) (by kernel_rfl) (by kernel_rfl) (fun _ _ _ h => h) (Or.inl ⟨by kernel_rfl, ?_⟩) SD.out ?_
      rotate_left 1
      · intro u hu; obtain ⟨hu1, hu2⟩ := hu; obtain ⟨x0, x1, x2, x3, x4⟩ := rowCells hu1; go_simp; first | done | with_reducible rfl
      try simp only [Act.put, nA, nB, nC, nD, nE, nF]
      refine held_take 3 ?_ rfl (by kernel_rfl) (by kernel_rfl) (by kernel_rfl) (fun _ _ _ h => h) (Or.inl ⟨by kernel_rfl, ?_⟩) SD.out ?_
      rotate_left 1
      · intro u hu; obtain ⟨hu1, hu2⟩ := hu; obtain ⟨x0, x1, x2, x3, x4⟩ := rowCells hu1; go_simp; first | done | with_reducible rfl
      try simp only [Act.put, nA, nB, nC, nD, nE, nF]
      refine held_take 4 ?_ rfl (by kernel_rfl) (by kernel_rfl) (by kernel_rfl) (fun _ _ _ h => h) (Or.inl ⟨by kernel_rfl, ?_⟩) SD.out ?_
      rotate_left 1
      · intro u hu; obtain ⟨hu1, hu2⟩ := hu; obtain ⟨x0, x1, x2, x3, x4⟩ := rowCells hu1; go_simp; first | done | with_reducible rfl
      try simp only [Act.put, nA, nB, nC, nD, nE, nF]
      refine held_take 6 ?_ rfl (by kernel_rfl) (by kernel_rfl) (by kernel_rfl) (fun _ _ _ h => h) (Or.inl ⟨by kernel_rfl, ?_⟩) SD.out ?_
      rotate_left 1
      · intro u hu; obtain ⟨hu1, hu2⟩ := hu; obtain ⟨x0, x1, x2, x3, x4⟩ := rowCells hu1; go_simp; first | done | with_reducible rfl
      try simp only [Act.put, nA, nB, nC, nD, nE, nF]
      refine held_take 7 ?_ rfl (by kernel_rfl) (by kernel_rfl) (by kernel_rfl) (fun _ _ _ h => h) (Or.inl ⟨by kernel_rfl, ?_⟩) SD.out ?_
      rotate_left 1
      · intro u hu; obtain ⟨hu1, hu2⟩ := hu; obtain ⟨x0, x1, x2, x3, x4⟩ := rowCells hu1; go_simp; first | done | with_reducible rfl
      try simp only [Act.put, nA, nB, nC, nD, nE, nF]
      refine held_take 9 ?_ rfl (by kernel_rfl) (by kernel_rfl) (by kernel_rfl) (fun _ _ _ h => h) (Or.inl ⟨by kernel_rfl, ?_⟩) SD.out ?_
      rotate_left 1
      · intro u hu; obtain ⟨hu1, hu2⟩ := hu; obtain ⟨x0, x1, x2, x3, x4⟩ := rowCells hu1; go_simp; first | done | with_reducible rfl
      try simp only [Act.put, nA, nB, nC, nD, nE, nF]
      refine held_take 10 ?_ rfl (by kernel_rfl) (by kernel_rfl) (by kernel_rfl) (fun _ _ _ h => h) (Or.inl ⟨by kernel_rfl, ?_⟩) SD.out ?_
      rotate_left 1
      · intro u hu; obtain ⟨hu1, hu2⟩ := hu; obtain ⟨x0, x1, x2, x3, x4⟩ := rowCells hu1; go_simp; first | done | with_reducible rfl
      try simp only [Act.put, nA, nB, nC, nD, nE, nF]
      cases hwx : wholeL x with
      | none =>
        obtain rfl : X = none := by rw [← HX.out]; unfold readR; rw [show readH r (([x, y, z, t, m, u] : List Bs)[0]?.getD []) (([x, y, z, t, m, u] : List Bs)[1]?.getD []) = none from readH_none3 HCA.out HA.out hwx]
        simp only [hwx] at HWX
        clear hwx
        refine held_one 5 (by kernel_rfl) rfl (by kernel_rfl) (fun K hK => ?_)
        go_simp
        refine (HWX _ (HW.out.turn VD.out)).out.mono ?_
        rintro e w4 ⟨he, t4⟩
        obtain rfl : e = badE := he
        exact ⟨rfl, rfl, VD.out.trans t4⟩
      | some sl =>
        have HSL := Lib.hid hwx
        simp only [hwx] at HWX
        clear hwx
        refine held_one 5 (by kernel_rfl) rfl (by kernel_rfl) (fun K hK => ?_)
        go_simp
        refine (HWX _ (HW.out.turn VD.out)).out.mono ?_
        rintro e w4 ⟨he, t4⟩
        obtain rfl : e = .returned (.int .i64 sl) := he
        have T4 := Lib.hid (VD.out.trans t4)
        have S4 : Hid (RowBox w4 RB r v ∧ w4.cell? ⟨lb, 0, none⟩ = some (.string (BT x))) := Lib.hid ⟨SD.out.1.turn t4, cell_turn t4 SD.out.2⟩
        have E4 := Lib.hid (ED.out.turn t4)
        clear t4
        refine hK _ _ S4.out ?_
        clear hK K
        try simp only [Act.put, nA, nB, nC, nD, nE, nF]
        cases hwp : wholeL p with
        | none =>
          obtain rfl : X = none := by rw [← HX.out]; unfold readR; rw [show readH r (([x, y, z, t, m, u] : List Bs)[0]?.getD []) (([x, y, z, t, m, u] : List Bs)[1]?.getD []) = none from readH_none4 HCA.out HA.out hwp]
          simp only [hwp] at HWP
          clear hwp
          refine held_one 8 (by kernel_rfl) rfl (by kernel_rfl) (fun K hK => ?_)
          go_simp
          refine (HWP _ (HW.out.turn T4.out)).out.mono ?_
          rintro e w5 ⟨he, t5⟩
          obtain rfl : e = badE := he
          exact ⟨rfl, rfl, T4.out.trans t5⟩
        | some pc =>
          have HPC := Lib.hid hwp
          simp only [hwp] at HWP
          clear hwp
          refine held_one 8 (by kernel_rfl) rfl (by kernel_rfl) (fun K hK => ?_)
          go_simp
          refine (HWP _ (HW.out.turn T4.out)).out.mono ?_
          rintro e w5 ⟨he, t5⟩
          obtain rfl : e = .returned (.int .i64 pc) := he
          have T5 := Lib.hid (T4.out.trans t5)
          have S5 : Hid (RowBox w5 RB r v ∧ w5.cell? ⟨lb, 0, none⟩ = some (.string (BT x))) := Lib.hid ⟨S4.out.1.turn t5, cell_turn t5 S4.out.2⟩
          have E5 := Lib.hid (E4.out.turn t5)
          clear t5
          refine hK _ _ S5.out ?_
          clear hK K
          try simp only [Act.put, nA, nB, nC, nD, nE, nF]
          refine held_take 11 ?_ rfl (by kernel_rfl) (by kernel_rfl) (by kernel_rfl) (fun _ _ _ h => h) (Or.inl ⟨by kernel_rfl, ?_⟩) S5.out ?_
          rotate_left 1
          · intro u hu; obtain ⟨hu1, hu2⟩ := hu; obtain ⟨x0, x1, x2, x3, x4⟩ := rowCells hu1; go_simp; first | done | with_reducible rfl
          try simp only [Act.put, nA, nB, nC, nD, nE, nF]
          obtain ⟨y0, y1, y2, y3, y4, y5, y6, y7, y8⟩ := evCells E5.out
          obtain ⟨z0, z1, z2, z3, z4, z5, z6, z7, z8⟩ := evFree E5.out
          refine held_one 12 (by kernel_rfl) rfl (by kernel_rfl) (fun K hK => ?_)
          go_simp
          generalize hws : World.setCell _ _ _ = w6
          have E6 : Hid (EvAt w6 (RB + 1) ⟨r.kind, sl, a, pc, [], 0, r.tag, 0, []⟩) := Lib.hid (by rw [← hws]; exact set9_at E5.out ⟨r.kind, sl, a, pc, [], 0, r.tag, 0, []⟩)
          have K6 : Turn (At1 (RB + 1)) w5 w6 := by rw [← hws]; exact set9_turn (B := RB + 1) ⟨r.kind, sl, a, pc, [], 0, r.tag, 0, []⟩
          have T6 := Lib.hid (T5.out.off K6 (by have := HRB.out; omega))
          have S6 : Hid (RowBox w6 RB r v ∧ w6.cell? ⟨lb, 0, none⟩ = some (.string (BT x))) := Lib.hid ⟨(K6.block RB (heap_lt S5.out.1) (fun e => by have h : RB = RB + 1 := e; omega)).trans S5.out.1, cell_at1 K6 S5.out.2 (by show lb ≠ RB + 1; have h1 := HLB.out; have h2 := HRB.out; omega)⟩
          clear hws K6 y0 y1 y2 y3 y4 y5 y6 y7 y8 z0 z1 z2 z3 z4 z5 z6 z7 z8
          refine hK _ _ S6.out ?_
          clear hK K
          try simp only [Act.put, nA, nB, nC, nD, nE, nF]
          refine wpAnyH_done (by kernel_rfl) ?_ _
          have q1 : w6.cell? ⟨RB + 1, 1, none⟩ = some (.int .i64 sl) := (evCells E6.out).2.1
          have q3 : w6.cell? ⟨RB + 1, 3, none⟩ = some (.int .i64 pc) := (evCells E6.out).2.2.2.1
          have x4 := (rowCells S6.out.1).2.2.2.2
          rw [HVE.out] at x4
          by_cases h0 : 0 ≤ sl
          · by_cases h1 : 0 ≤ pc
            · have HRH := Lib.hid (readH_yes (r := r) HCA.out HA.out HSL.out HPC.out ⟨h0, h1⟩)
              go_wp2_with fail
              refine (need_yes _).mono ?_
              rintro e w6 ⟨rfl, rfl⟩
              clear q1 q3 h0 h1
              go_wp2_with fail
              have f1a : w6.cell? ⟨b, 0, none⟩ = some (.func (.func 98) #[] #[]) := cell_blk ((T6.out.block b (heap_lt HBF.out) (fun h => h)).trans HBF.out)
              have f1b : w6.cell? ⟨b, 1, none⟩ = some (.func (.func 99) #[] #[]) := cell_blk ((T6.out.block b (heap_lt HBF.out) (fun h => h)).trans HBF.out)
              obtain ⟨j1, j2, j3, e1, e2, e3, kb, tb⟩ := box95 w6 (t := .func (.func 98) #[] #[]) (r := .func (.func 99) #[] #[]) rfl rfl
              have g1 : j3.cell? ⟨w6.heap.size, 1, none⟩ = some (.func (.func 99) #[] #[]) := cell_blk kb
              have G1 := Lib.hid g1
              have U1 := Lib.hid (T6.out.trans tb)
              have Q1 := Lib.hid (E6.out.turn tb)
              have N1 : Hid (w6.heap.size ≠ RB + 1) := Lib.hid (by have := heap_lt E6.out; omega)
              have O1 : Hid (j3.cell? ⟨lb, 3, none⟩ = some (.string (BT t))) := Lib.hid (cell_turn U1.out (HL.out 3 (by simp)))
              clear kb tb g1
              refine wp_loop_rounds 3 ?_
              rw [rounds_succ]
              go_upto_region 11 with (fail)
              clear f1a f1b e1 e2 e3
              obtain ⟨n1, hn1⟩ : ∃ n, w6.heap.size = n := ⟨_, rfl⟩
              rw [hn1] at G1 N1 ⊢
              clear hn1
              refine held_begin (fun uu => uu.cell? ⟨n1, 1, none⟩ = some (.func (.func 99) #[] #[]) ∧ uu.cell? ⟨lb, 3, none⟩ = some (.string (BT t))) (by kernel_rfl) ?_
              generalize hwd : World.drew j3 = wd
              have VD1 : Hid (Turn Nn w wd) := Lib.hid (by rw [← hwd]; exact U1.out.drew)
              have SD1 : Hid (wd.cell? ⟨n1, 1, none⟩ = some (.func (.func 99) #[] #[]) ∧ wd.cell? ⟨lb, 3, none⟩ = some (.string (BT t))) := Lib.hid (by rw [← hwd]; exact ⟨G1.out, O1.out⟩)
              have ED1 : Hid (EvAt wd (RB + 1) ⟨r.kind, sl, a, pc, [], 0, r.tag, 0, []⟩) := Lib.hid (by rw [← hwd]; exact Q1.out)
              clear hwd
              have HRD := Lib.hid (read_place (s := t) ht ED1.out (HW.out.turn VD1.out))
              refine held_take 0 ?_ rfl (by kernel_rfl) (by kernel_rfl) (by kernel_rfl) (fun _ _ _ h => h) (Or.inl ⟨by kernel_rfl, ?_⟩) SD1.out ?_
              rotate_left 1
              · intro u hu; obtain ⟨hu1, hu2⟩ := hu; go_simp; first | done | with_reducible rfl
              try simp only [Act.put, nA, nB, nC, nD, nE, nF]
              refine held_take 1 ?_ rfl (by kernel_rfl) (by kernel_rfl) (by kernel_rfl) (fun _ _ _ h => h) (Or.inl ⟨by kernel_rfl, ?_⟩) SD1.out ?_
              rotate_left 1
              · intro u hu; obtain ⟨hu1, hu2⟩ := hu; go_simp; first | done | with_reducible rfl
              try simp only [Act.put, nA, nB, nC, nD, nE, nF]
              refine held_take 2 ?_ rfl (by kernel_rfl) (by kernel_rfl) (by kernel_rfl) (fun _ _ _ h => h) (Or.inl ⟨by kernel_rfl, ?_⟩) SD1.out ?_
              rotate_left 1
              · intro u hu; obtain ⟨hu1, hu2⟩ := hu; go_simp; first | done | with_reducible rfl
              try simp only [Act.put, nA, nB, nC, nD, nE, nF]
              refine held_take 3 ?_ rfl (by kernel_rfl) (by kernel_rfl) (by kernel_rfl) (fun _ _ _ h => h) (Or.inl ⟨by kernel_rfl, ?_⟩) SD1.out ?_
              rotate_left 1
              · intro u hu; obtain ⟨hu1, hu2⟩ := hu; go_simp; first | done | with_reducible rfl
              try simp only [Act.put, nA, nB, nC, nD, nE, nF]
              refine held_take 4 ?_ rfl (by kernel_rfl) (by kernel_rfl) (by kernel_rfl) (fun _ _ _ h => h) (Or.inl ⟨by kernel_rfl, ?_⟩) SD1.out ?_
              rotate_left 1
              · intro u hu; obtain ⟨hu1, hu2⟩ := hu; go_simp; first | done | with_reducible rfl
              try simp only [Act.put, nA, nB, nC, nD, nE, nF]
              refine held_take 5 ?_ rfl (by kernel_rfl) (by kernel_rfl) (by kernel_rfl) (fun _ _ _ h => h) (Or.inl ⟨by kernel_rfl, ?_⟩) SD1.out ?_
              rotate_left 1
              · intro u hu; obtain ⟨hu1, hu2⟩ := hu; go_simp; first | done | with_reducible rfl
              try simp only [Act.put, nA, nB, nC, nD, nE, nF]
              cases hrf1 : readF .place ⟨r.kind, sl, a, pc, [], 0, r.tag, 0, []⟩ t with
              | none =>
                simp only [hrf1] at HRD
                obtain rfl : X = none := by rw [← HX.out]; unfold readR; rw [show readH r (([x, y, z, t, m, u] : List Bs)[0]?.getD []) (([x, y, z, t, m, u] : List Bs)[1]?.getD []) = _ from HRH.out, HF.out]; show (readF .place _ t).bind _ = none; rw [hrf1]; rfl
                refine held_one 6 (by kernel_rfl) rfl (by kernel_rfl) (fun K hK => ?_)
                go_simp
                refine HRD.out.mono ?_
                rintro e w8 ⟨he, t8⟩
                obtain rfl : e = badE := he
                exact ⟨rfl, rfl, VD1.out.off t8 (by have := HRB.out; omega)⟩
              | some E8e =>
                simp only [hrf1] at HRD
                have HRF1 := Lib.hid hrf1
                clear hrf1
                refine held_one 6 (by kernel_rfl) rfl (by kernel_rfl) (fun K hK => ?_)
                go_simp
                refine HRD.out.mono ?_
                rintro e w8 ⟨he, t8⟩
                obtain ⟨rfl, hE8⟩ := he
                have E8 := Lib.hid hE8
                have T8 := Lib.hid (VD1.out.off t8 (by have := HRB.out; omega))
                have S1z : Hid (w8.cell? ⟨n1, 1, none⟩ = some (.func (.func 99) #[] #[]) ∧ w8.cell? ⟨lb, 3, none⟩ = some (.string (BT t))) := Lib.hid ⟨cell_at1 t8 SD1.out.1 N1.out, cell_at1 t8 SD1.out.2 (by show lb ≠ RB + 1; have h1 := HLB.out; have h2 := HRB.out; omega)⟩
                clear t8 hE8
                refine hK _ _ S1z.out ?_
                clear hK K
                try simp only [Act.put, nA, nB, nC, nD, nE, nF]
                refine wpAnyH_done (by kernel_rfl) ?_ _
                have f2a : w8.cell? ⟨b, 2, none⟩ = some (.func (.func 92) #[] #[]) := cell_blk ((T8.out.block b (heap_lt HBF.out) (fun h => h)).trans HBF.out)
                have f2b : w8.cell? ⟨b, 3, none⟩ = some (.func (.func 93) #[] #[]) := cell_blk ((T8.out.block b (heap_lt HBF.out) (fun h => h)).trans HBF.out)
                obtain ⟨j1, j2, j3, e1, e2, e3, kb, tb⟩ := box95 w8 (t := .func (.func 92) #[] #[]) (r := .func (.func 93) #[] #[]) rfl rfl
                have g2 : j3.cell? ⟨w8.heap.size, 1, none⟩ = some (.func (.func 93) #[] #[]) := cell_blk kb
                have G2 := Lib.hid g2
                have U2 := Lib.hid (T8.out.trans tb)
                have Q2 := Lib.hid (E8.out.turn tb)
                have N2 : Hid (w8.heap.size ≠ RB + 1) := Lib.hid (by have := heap_lt E8.out; omega)
                have O2 : Hid (j3.cell? ⟨lb, 5, none⟩ = some (.string (BT u))) := Lib.hid (cell_turn U2.out (HL.out 5 (by simp)))
                clear kb tb g2
                go_wp2_with fail
                rw [rounds_succ]
                go_upto_region 11 with (fail)
                clear f2a f2b e1 e2 e3
                obtain ⟨n2, hn2⟩ : ∃ n, w8.heap.size = n := ⟨_, rfl⟩
                rw [hn2] at G2 N2 ⊢
                clear hn2
                refine held_begin (fun uu => uu.cell? ⟨n2, 1, none⟩ = some (.func (.func 93) #[] #[]) ∧ uu.cell? ⟨lb, 5, none⟩ = some (.string (BT u))) (by kernel_rfl) ?_
                generalize hwd : World.drew j3 = wd
                have VD2 : Hid (Turn Nn w wd) := Lib.hid (by rw [← hwd]; exact U2.out.drew)
                have SD2 : Hid (wd.cell? ⟨n2, 1, none⟩ = some (.func (.func 93) #[] #[]) ∧ wd.cell? ⟨lb, 5, none⟩ = some (.string (BT u))) := Lib.hid (by rw [← hwd]; exact ⟨G2.out, O2.out⟩)
                have ED2 : Hid (EvAt wd (RB + 1) E8e) := Lib.hid (by rw [← hwd]; exact Q2.out)
                clear hwd
                have HRD := Lib.hid (read_word (s := u) hu ED2.out (HW.out.turn VD2.out))
                refine held_take 0 ?_ rfl (by kernel_rfl) (by kernel_rfl) (by kernel_rfl) (fun _ _ _ h => h) (Or.inl ⟨by kernel_rfl, ?_⟩) SD2.out ?_
                rotate_left 1
                · intro u hu; obtain ⟨hu1, hu2⟩ := hu; go_simp; first | done | with_reducible rfl
                try simp only [Act.put, nA, nB, nC, nD, nE, nF]
                refine held_take 1 ?_ rfl (by kernel_rfl) (by kernel_rfl) (by kernel_rfl) (fun _ _ _ h => h) (Or.inl ⟨by kernel_rfl, ?_⟩) SD2.out ?_
                rotate_left 1
                · intro u hu; obtain ⟨hu1, hu2⟩ := hu; go_simp; first | done | with_reducible rfl
                try simp only [Act.put, nA, nB, nC, nD, nE, nF]
                refine held_take 2 ?_ rfl (by kernel_rfl) (by kernel_rfl) (by kernel_rfl) (fun _ _ _ h => h) (Or.inl ⟨by kernel_rfl, ?_⟩) SD2.out ?_
                rotate_left 1
                · intro u hu; obtain ⟨hu1, hu2⟩ := hu; go_simp; first | done | with_reducible rfl
                try simp only [Act.put, nA, nB, nC, nD, nE, nF]
                refine held_take 3 ?_ rfl (by kernel_rfl) (by kernel_rfl) (by kernel_rfl) (fun _ _ _ h => h) (Or.inl ⟨by kernel_rfl, ?_⟩) SD2.out ?_
                rotate_left 1
                · intro u hu; obtain ⟨hu1, hu2⟩ := hu; go_simp; first | done | with_reducible rfl
                try simp only [Act.put, nA, nB, nC, nD, nE, nF]
                refine held_take 4 ?_ rfl (by kernel_rfl) (by kernel_rfl) (by kernel_rfl) (fun _ _ _ h => h) (Or.inl ⟨by kernel_rfl, ?_⟩) SD2.out ?_
                rotate_left 1
                · intro u hu; obtain ⟨hu1, hu2⟩ := hu; go_simp; first | done | with_reducible rfl
                try simp only [Act.put, nA, nB, nC, nD, nE, nF]
                refine held_take 5 ?_ rfl (by kernel_rfl) (by kernel_rfl) (by kernel_rfl) (fun _ _ _ h => h) (Or.inl ⟨by kernel_rfl, ?_⟩) SD2.out ?_
                rotate_left 1
                · intro u hu; obtain ⟨hu1, hu2⟩ := hu; go_simp; first | done | with_reducible rfl
                try simp only [Act.put, nA, nB, nC, nD, nE, nF]
                cases hrf2 : readF .word E8e u with
                | none =>
                  simp only [hrf2] at HRD
                  obtain rfl : X = none := by rw [← HX.out]; unfold readR; rw [show readH r (([x, y, z, t, m, u] : List Bs)[0]?.getD []) (([x, y, z, t, m, u] : List Bs)[1]?.getD []) = _ from HRH.out, HF.out]; show (readF .place _ t).bind _ = none; rw [HRF1.out]; exact hrf2
                  refine held_one 6 (by kernel_rfl) rfl (by kernel_rfl) (fun K hK => ?_)
                  go_simp
                  refine HRD.out.mono ?_
                  rintro e w9 ⟨he, t8⟩
                  obtain rfl : e = badE := he
                  exact ⟨rfl, rfl, VD2.out.off t8 (by have := HRB.out; omega)⟩
                | some E9e =>
                  simp only [hrf2] at HRD
                  have HRF2 := Lib.hid hrf2
                  clear hrf2
                  refine held_one 6 (by kernel_rfl) rfl (by kernel_rfl) (fun K hK => ?_)
                  go_simp
                  refine HRD.out.mono ?_
                  rintro e w9 ⟨he, t8⟩
                  obtain ⟨rfl, hE8⟩ := he
                  have E9 := Lib.hid hE8
                  have T9 := Lib.hid (VD2.out.off t8 (by have := HRB.out; omega))
                  have S2z : Hid (w9.cell? ⟨n2, 1, none⟩ = some (.func (.func 93) #[] #[]) ∧ w9.cell? ⟨lb, 5, none⟩ = some (.string (BT u))) := Lib.hid ⟨cell_at1 t8 SD2.out.1 N2.out, cell_at1 t8 SD2.out.2 (by show lb ≠ RB + 1; have h1 := HLB.out; have h2 := HRB.out; omega)⟩
                  clear t8 hE8
                  refine hK _ _ S2z.out ?_
                  clear hK K
                  try simp only [Act.put, nA, nB, nC, nD, nE, nF]
                  refine wpAnyH_done (by kernel_rfl) ?_ _
                  obtain ⟨y0, y1, y2, y3, y4, y5, y6, y7, y8⟩ := evCells E9.out
                  obtain ⟨z0, z1, z2, z3, z4, z5, z6, z7, z8⟩ := evFree E9.out
                  go_wp2_with fail
                  rw [rounds_succ]
                  go_wp2_with fail
                  obtain rfl : X = some E9e := by rw [← HX.out]; unfold readR; rw [show readH r (([x, y, z, t, m, u] : List Bs)[0]?.getD []) (([x, y, z, t, m, u] : List Bs)[1]?.getD []) = _ from HRH.out, HF.out]; show (readF .place _ t).bind _ = _; rw [HRF1.out]; exact HRF2.out
                  refine bodyPost_ret (v := .agg (evC E9e)) (results_cell_row rfl _ _ (RB + 1) 34 _ (0, 0) _ rfl (set9_at E9.out E9e) Tryz.underlying34 rfl (by kernel_rfl)) rfl ?_
                  exact ⟨rfl, T9.out.off (set9_turn E9e) (by have := HRB.out; omega)⟩
            · obtain rfl : X = none := by rw [← HX.out]; unfold readR; rw [show readH r (([x, y, z, t, m, u] : List Bs)[0]?.getD []) (([x, y, z, t, m, u] : List Bs)[1]?.getD []) = none from readH_none5 HCA.out HA.out HSL.out HPC.out (fun h => h1 h.2)]
              go_wp2_with fail
              refine (need_no _).mono ?_
              rintro e w6 ⟨rfl, rfl⟩
              exact ⟨rfl, rfl, T6.out⟩
          · obtain rfl : X = none := by rw [← HX.out]; unfold readR; rw [show readH r (([x, y, z, t, m, u] : List Bs)[0]?.getD []) (([x, y, z, t, m, u] : List Bs)[1]?.getD []) = none from readH_none5 HCA.out HA.out HSL.out HPC.out (fun h => h0 h.1)]
            go_wp2_with fail
            refine (need_no _).mono ?_
            rintro e w6 ⟨rfl, rfl⟩
            exact ⟨rfl, rfl, T6.out⟩
set_option maxRecDepth 100000 in
set_option maxHeartbeats 40000000 in
theorem row_read_two_label {r : RowD} (hf : r.flds = [.place, .label]) {x y z t m u : Bs} {v : Value} {w : World} {lb cap : Nat} (hL : WAt w lb [x, y, z, t, m, u]) (hx : x.length ≤ 4000000) (hy : y.length ≤ 4000000) (ht : t.length ≤ 4000000) (hu : u.length ≤ 4000000) (hcap : 6 ≤ cap) (hv : FSl w v r.flds) (hw : Laid w) :
    Calls Tryz.prog 46 #[.agg (rowA r v), .slice (some ⟨lb, 0, none⟩) 6 cap] w (ReadX w (readR r [x, y, z, t, m, u])) := by
  obtain ⟨X, hX⟩ : ∃ X, readR r [x, y, z, t, m, u] = X := ⟨_, rfl⟩
  rw [hX]
  have HX := Lib.hid hX
  have HW := Lib.hid hw
  have HF := Lib.hid hf
  have HL := Lib.hid hL
  have l0 : w.cell? ⟨lb, 0, none⟩ = some (.string (BT x)) := hL 0 (by simp)
  have l1 : w.cell? ⟨lb, 1, none⟩ = some (.string (BT y)) := hL 1 (by simp)
  have HLB := Lib.hid (World.block_lt_of_cell? _ _ l0)
  have HS4 : Hid (3 < w.heap.size) := Lib.hid (by obtain ⟨a, b, h⟩ := hw.rng; exact World.block_lt_of_cell? _ _ h)
  have HCU := fun w (h : Laid w) => Lib.hid (cut_any hy h)
  have HWX := fun w (h : Laid w) => Lib.hid (whole_any hx h)
  rw [hf] at hv
  clear hX hw hf hL
  obtain ⟨b, _, _, _, _, hve, hb, ⟨rfl, rfl⟩, ⟨bx, rfl, rfl, hx0⟩⟩ := hv
  have HVE := Lib.hid hve
  have HBF := Lib.hid hb
  have HBX := Lib.hid hx0
  clear hx0
  clear hve hb
  obtain ⟨w0, hw0⟩ : ∃ w0, w.alloc (.cells (rowA r v) 70) = w0 := ⟨_, rfl⟩
  obtain ⟨bR, tR⟩ := alloc1 hw0
  obtain ⟨w1, hw1⟩ : ∃ w1, w0.alloc (.cells (evC zeroE) 34) = w1 := ⟨_, rfl⟩
  obtain ⟨bE, tE⟩ := alloc1 hw1
  have hs0 : w0.heap.size = w.heap.size + 1 := by rw [← hw0, World.size_alloc]
  rw [hs0] at bE
  obtain ⟨RB, hRB⟩ : ∃ RB, w.heap.size = RB := ⟨_, rfl⟩
  have HRB := Lib.hid hRB
  have R1 : Hid (RowBox w1 RB r v) := Lib.hid (by rw [← hRB]; exact (tE.block _ (heap_lt bR) (fun h => h)).trans bR)
  have E1 : Hid (EvAt w1 (RB + 1) zeroE) := Lib.hid (by rw [← hRB]; exact bE)
  have T1 := Lib.hid (tR.trans tE)
  have m0 := cell_turn T1.out l0
  have m1 := cell_turn T1.out l1
  have M0 := Lib.hid m0
  have hw0' : w.alloc (.cells #[.int .i64 r.kind, .int .i64 r.tag, .string (BT r.word), .string (BT r.msg), v] 70) = w0 := hw0
  have hw1' : w0.alloc (.cells #[.int .i64 0, .int .i64 0, .string ⟨#[]⟩, .int .i64 0, .string ⟨#[]⟩, .int .i64 0, .int .i64 0, .int .i64 0, .string ⟨#[]⟩] 34) = w1 := hw1
  clear bR tR bE tE hw0 hw1 l0 l1 m0
  unfold rowA
  go_enter Tryz.func46, Tryz.ntmps46
  go_wp2_with fail
  refine (HCU _ (HW.out.turn T1.out)).out.mono ?_
  rintro e w2 ⟨rfl, t2⟩
  have T2 := Lib.hid (T1.out.trans t2)
  have R2 := Lib.hid (R1.out.turn t2)
  have E2 := Lib.hid (E1.out.turn t2)
  have M2 := Lib.hid (cell_turn t2 M0.out)
  clear t2 m1
  unfold cutA
  cases hcu : cutC 64 y with
  | none =>
    obtain rfl : X = none := by rw [← HX.out]; unfold readR; rw [show readH r (([x, y, z, t, m, u] : List Bs)[0]?.getD []) (([x, y, z, t, m, u] : List Bs)[1]?.getD []) = none from readH_none1 hcu]
    clear hcu
    go_wp2_with fail
    refine (need_no _).mono ?_
    rintro e wn ⟨rfl, rfl⟩
    exact ⟨rfl, rfl, T2.out⟩
  | some p =>
    obtain ⟨a, p⟩ := p
    have hya := (cutC_some hcu).1
    have hal : a.length ≤ 4000000 := by rw [hya] at hy; simp at hy; omega
    have hpl : p.length ≤ 4000000 := by rw [hya] at hy; simp at hy; omega
    have HCA := Lib.hid hcu
    have HAC := fun w (h : Laid w) => Lib.hid (actor_any hal h)
    have HWP := fun w (h : Laid w) => Lib.hid (whole_any hpl h)
    clear hcu hya hal hpl
    simp only
    cases hac : actorL a with
    | false =>
      obtain rfl : X = none := by rw [← HX.out]; unfold readR; rw [show readH r (([x, y, z, t, m, u] : List Bs)[0]?.getD []) (([x, y, z, t, m, u] : List Bs)[1]?.getD []) = none from readH_none2 HCA.out hac]
      simp only [hac] at HAC
      clear hac
      go_wp2_with fail
      refine (HAC _ (HW.out.turn T2.out)).out.mono ?_
      rintro e w3 ⟨rfl, t3⟩
      have T3 := Lib.hid (T2.out.trans t3)
      clear t3
      go_wp2_with fail
      refine (need_no _).mono ?_
      rintro e wn ⟨rfl, rfl⟩
      exact ⟨rfl, rfl, T3.out⟩
    | true =>
      have HA := Lib.hid hac
      simp only [hac] at HAC
      clear hac
      go_wp2_with fail
      refine (HAC _ (HW.out.turn T2.out)).out.mono ?_
      rintro e w3 ⟨rfl, t3⟩
      have T3 := Lib.hid (T2.out.trans t3)
      have R3 := Lib.hid (R2.out.turn t3)
      have E3 := Lib.hid (E2.out.turn t3)
      have M3 := Lib.hid (cell_turn t3 M2.out)
      clear t3
      go_wp2_with fail
      refine (need_yes _).mono ?_
      rintro e w3 ⟨rfl, rfl⟩
      go_upto_region 3 with (fail)
      refine held_begin (fun u => RowBox u RB r v ∧ u.cell? ⟨lb, 0, none⟩ = some (.string (BT x))) (by kernel_rfl) ?_
      generalize hwd : World.drew w3 = wd
      have VD : Hid (Turn Nn w wd) := Lib.hid (by rw [← hwd]; exact T3.out.drew)
      have SD : Hid (RowBox wd RB r v ∧ wd.cell? ⟨lb, 0, none⟩ = some (.string (BT x))) := Lib.hid (by rw [← hwd]; exact ⟨R3.out, M3.out⟩)
      have ED : Hid (EvAt wd (RB + 1) zeroE) := Lib.hid (by rw [← hwd]; exact E3.out)
      clear hwd
      refine held_take 0 ?_ rfl (by kernel_rfl) (by kernel_rfl) (by kernel_rfl) (fun _ _ _ h => h) (Or.inl ⟨by kernel_rfl, ?_⟩) SD.out ?_
      rotate_left 1
      · intro u hu; obtain ⟨hu1, hu2⟩ := hu; obtain ⟨x0, x1, x2, x3, x4⟩ := rowCells hu1; go_simp; first | done | with_reducible rfl
      try simp only [Act.put, nA, nB, nC, nD, nE, nF]
      refine held_take 1 ?_ rfl (by kernel_rfl) (by kernel_rfl) (by kernel_rfl) (fun _ _ _ h => h) (Or.inl ⟨by kernel_rfl, ?_⟩) SD.out ?_
      rotate_left 1
      · intro u hu; obtain ⟨hu1, hu2⟩ := hu; obtain ⟨x0, x1, x2, x3, x4⟩ := rowCells hu1; go_simp; first | done | with_reducible rfl
      try simp only [Act.put, nA, nB, nC, nD, nE, nF]
      refine held_take 2 ?_ rfl (by kernel_rfl) (by kernel_rfl) (by kernel_rfl) (fun _ _ _ h => h) (Or.inl ⟨by kernel_rfl, ?_⟩) SD.out ?_
      rotate_left 1
      · intro u hu; obtain ⟨hu1, hu2⟩ := hu; obtain ⟨x0, x1, x2, x3, x4⟩ := rowCells hu1; go_simp; first | done | with_reducible rfl
      try simp only [Act.put, nA, nB, nC, nD, nE, nF]
      refine held_take 3 ?_ rfl (by kernel_rfl) (by kernel_rfl) (by kernel_rfl) (fun _ _ _ h => h) (Or.inl ⟨by kernel_rfl, ?_⟩) SD.out ?_
      rotate_left 1
      · intro u hu; obtain ⟨hu1, hu2⟩ := hu; obtain ⟨x0, x1, x2, x3, x4⟩ := rowCells hu1; go_simp; first | done | with_reducible rfl
      try simp only [Act.put, nA, nB, nC, nD, nE, nF]
      refine held_take 4 ?_ rfl (by kernel_rfl) (by kernel_rfl) (by kernel_rfl) (fun _ _ _ h => h) (Or.inl ⟨by kernel_rfl, ?_⟩) SD.out ?_
      rotate_left 1
      · intro u hu; obtain ⟨hu1, hu2⟩ := hu; obtain ⟨x0, x1, x2, x3, x4⟩ := rowCells hu1; go_simp; first | done | with_reducible rfl
      try simp only [Act.put, nA, nB, nC, nD, nE, nF]
      refine held_take 6 ?_ rfl (by kernel_rfl) (by kernel_rfl) (by kernel_rfl) (fun _ _ _ h => h) (Or.inl ⟨by kernel_rfl, ?_⟩) SD.out ?_
      rotate_left 1
      · intro u hu; obtain ⟨hu1, hu2⟩ := hu; obtain ⟨x0, x1, x2, x3, x4⟩ := rowCells hu1; go_simp; first | done | with_reducible rfl
      try simp only [Act.put, nA, nB, nC, nD, nE, nF]
      refine held_take 7 ?_ rfl (by kernel_rfl) (by kernel_rfl) (by kernel_rfl) (fun _ _ _ h => h) (Or.inl ⟨by kernel_rfl, ?_⟩) SD.out ?_
      rotate_left 1
      · intro u hu; obtain ⟨hu1, hu2⟩ := hu; obtain ⟨x0, x1, x2, x3, x4⟩ := rowCells hu1; go_simp; first | done | with_reducible rfl
      try simp only [Act.put, nA, nB, nC, nD, nE, nF]
      refine held_take 9 ?_ rfl (by kernel_rfl) (by kernel_rfl) (by kernel_rfl) (fun _ _ _ h => h) (Or.inl ⟨by kernel_rfl, ?_⟩) SD.out ?_
      rotate_left 1
      · intro u hu; obtain ⟨hu1, hu2⟩ := hu; obtain ⟨x0, x1, x2, x3, x4⟩ := rowCells hu1; go_simp; first | done | with_reducible rfl
      try simp only [Act.put, nA, nB, nC, nD, nE, nF]
      refine held_take 10 ?_ rfl (by kernel_rfl) (by kernel_rfl) (by kernel_rfl) (fun _ _ _ h => h) (Or.inl ⟨by kernel_rfl, ?_⟩) SD.out ?_
      rotate_left 1
      · intro u hu; obtain ⟨hu1, hu2⟩ := hu; obtain ⟨x0, x1, x2, x3, x4⟩ := rowCells hu1; go_simp; first | done | with_reducible rfl
      try simp only [Act.put, nA, nB, nC, nD, nE, nF]
      cases hwx : wholeL x with
      | none =>
        obtain rfl : X = none := by rw [← HX.out]; unfold readR; rw [show readH r (([x, y, z, t, m, u] : List Bs)[0]?.getD []) (([x, y, z, t, m, u] : List Bs)[1]?.getD []) = none from readH_none3 HCA.out HA.out hwx]
        simp only [hwx] at HWX
        clear hwx
        refine held_one 5 (by kernel_rfl) rfl (by kernel_rfl) (fun K hK => ?_)
        go_simp
        refine (HWX _ (HW.out.turn VD.out)).out.mono ?_
        rintro e w4 ⟨he, t4⟩
        obtain rfl : e = badE := he
        exact ⟨rfl, rfl, VD.out.trans t4⟩
      | some sl =>
        have HSL := Lib.hid hwx
        simp only [hwx] at HWX
        clear hwx
        refine held_one 5 (by kernel_rfl) rfl (by kernel_rfl) (fun K hK => ?_)
        go_simp
        refine (HWX _ (HW.out.turn VD.out)).out.mono ?_
        rintro e w4 ⟨he, t4⟩
        obtain rfl : e = .returned (.int .i64 sl) := he
        have T4 := Lib.hid (VD.out.trans t4)
        have S4 : Hid (RowBox w4 RB r v ∧ w4.cell? ⟨lb, 0, none⟩ = some (.string (BT x))) := Lib.hid ⟨SD.out.1.turn t4, cell_turn t4 SD.out.2⟩
        have E4 := Lib.hid (ED.out.turn t4)
        clear t4
        refine hK _ _ S4.out ?_
        clear hK K
        try simp only [Act.put, nA, nB, nC, nD, nE, nF]
        cases hwp : wholeL p with
        | none =>
          obtain rfl : X = none := by rw [← HX.out]; unfold readR; rw [show readH r (([x, y, z, t, m, u] : List Bs)[0]?.getD []) (([x, y, z, t, m, u] : List Bs)[1]?.getD []) = none from readH_none4 HCA.out HA.out hwp]
          simp only [hwp] at HWP
          clear hwp
          refine held_one 8 (by kernel_rfl) rfl (by kernel_rfl) (fun K hK => ?_)
          go_simp
          refine (HWP _ (HW.out.turn T4.out)).out.mono ?_
          rintro e w5 ⟨he, t5⟩
          obtain rfl : e = badE := he
          exact ⟨rfl, rfl, T4.out.trans t5⟩
        | some pc =>
          have HPC := Lib.hid hwp
          simp only [hwp] at HWP
          clear hwp
          refine held_one 8 (by kernel_rfl) rfl (by kernel_rfl) (fun K hK => ?_)
          go_simp
          refine (HWP _ (HW.out.turn T4.out)).out.mono ?_
          rintro e w5 ⟨he, t5⟩
          obtain rfl : e = .returned (.int .i64 pc) := he
          have T5 := Lib.hid (T4.out.trans t5)
          have S5 : Hid (RowBox w5 RB r v ∧ w5.cell? ⟨lb, 0, none⟩ = some (.string (BT x))) := Lib.hid ⟨S4.out.1.turn t5, cell_turn t5 S4.out.2⟩
          have E5 := Lib.hid (E4.out.turn t5)
          clear t5
          refine hK _ _ S5.out ?_
          clear hK K
          try simp only [Act.put, nA, nB, nC, nD, nE, nF]
          refine held_take 11 ?_ rfl (by kernel_rfl) (by kernel_rfl) (by kernel_rfl) (fun _ _ _ h => h) (Or.inl ⟨by kernel_rfl, ?_⟩) S5.out ?_
          rotate_left 1
          · intro u hu; obtain ⟨hu1, hu2⟩ := hu; obtain ⟨x0, x1, x2, x3, x4⟩ := rowCells hu1; go_simp; first | done | with_reducible rfl
          try simp only [Act.put, nA, nB, nC, nD, nE, nF]
          obtain ⟨y0, y1, y2, y3, y4, y5, y6, y7, y8⟩ := evCells E5.out
          obtain ⟨z0, z1, z2, z3, z4, z5, z6, z7, z8⟩ := evFree E5.out
          refine held_one 12 (by kernel_rfl) rfl (by kernel_rfl) (fun K hK => ?_)
          go_simp
          generalize hws : World.setCell _ _ _ = w6
          have E6 : Hid (EvAt w6 (RB + 1) ⟨r.kind, sl, a, pc, [], 0, r.tag, 0, []⟩) := Lib.hid (by rw [← hws]; exact set9_at E5.out ⟨r.kind, sl, a, pc, [], 0, r.tag, 0, []⟩)
          have K6 : Turn (At1 (RB + 1)) w5 w6 := by rw [← hws]; exact set9_turn (B := RB + 1) ⟨r.kind, sl, a, pc, [], 0, r.tag, 0, []⟩
          have T6 := Lib.hid (T5.out.off K6 (by have := HRB.out; omega))
          have S6 : Hid (RowBox w6 RB r v ∧ w6.cell? ⟨lb, 0, none⟩ = some (.string (BT x))) := Lib.hid ⟨(K6.block RB (heap_lt S5.out.1) (fun e => by have h : RB = RB + 1 := e; omega)).trans S5.out.1, cell_at1 K6 S5.out.2 (by show lb ≠ RB + 1; have h1 := HLB.out; have h2 := HRB.out; omega)⟩
          clear hws K6 y0 y1 y2 y3 y4 y5 y6 y7 y8 z0 z1 z2 z3 z4 z5 z6 z7 z8
          refine hK _ _ S6.out ?_
          clear hK K
          try simp only [Act.put, nA, nB, nC, nD, nE, nF]
          refine wpAnyH_done (by kernel_rfl) ?_ _
          have q1 : w6.cell? ⟨RB + 1, 1, none⟩ = some (.int .i64 sl) := (evCells E6.out).2.1
          have q3 : w6.cell? ⟨RB + 1, 3, none⟩ = some (.int .i64 pc) := (evCells E6.out).2.2.2.1
          have x4 := (rowCells S6.out.1).2.2.2.2
          rw [HVE.out] at x4
          by_cases h0 : 0 ≤ sl
          · by_cases h1 : 0 ≤ pc
            · have HRH := Lib.hid (readH_yes (r := r) HCA.out HA.out HSL.out HPC.out ⟨h0, h1⟩)
              go_wp2_with fail
              refine (need_yes _).mono ?_
              rintro e w6 ⟨rfl, rfl⟩
              clear q1 q3 h0 h1
              go_wp2_with fail
              have f1a : w6.cell? ⟨b, 0, none⟩ = some (.func (.func 98) #[] #[]) := cell_blk ((T6.out.block b (heap_lt HBF.out) (fun h => h)).trans HBF.out)
              have f1b : w6.cell? ⟨b, 1, none⟩ = some (.func (.func 99) #[] #[]) := cell_blk ((T6.out.block b (heap_lt HBF.out) (fun h => h)).trans HBF.out)
              obtain ⟨j1, j2, j3, e1, e2, e3, kb, tb⟩ := box95 w6 (t := .func (.func 98) #[] #[]) (r := .func (.func 99) #[] #[]) rfl rfl
              have g1 : j3.cell? ⟨w6.heap.size, 1, none⟩ = some (.func (.func 99) #[] #[]) := cell_blk kb
              have G1 := Lib.hid g1
              have U1 := Lib.hid (T6.out.trans tb)
              have Q1 := Lib.hid (E6.out.turn tb)
              have N1 : Hid (w6.heap.size ≠ RB + 1) := Lib.hid (by have := heap_lt E6.out; omega)
              have O1 : Hid (j3.cell? ⟨lb, 3, none⟩ = some (.string (BT t))) := Lib.hid (cell_turn U1.out (HL.out 3 (by simp)))
              clear kb tb g1
              refine wp_loop_rounds 3 ?_
              rw [rounds_succ]
              go_upto_region 11 with (fail)
              clear f1a f1b e1 e2 e3
              obtain ⟨n1, hn1⟩ : ∃ n, w6.heap.size = n := ⟨_, rfl⟩
              rw [hn1] at G1 N1 ⊢
              clear hn1
              refine held_begin (fun uu => uu.cell? ⟨n1, 1, none⟩ = some (.func (.func 99) #[] #[]) ∧ uu.cell? ⟨lb, 3, none⟩ = some (.string (BT t))) (by kernel_rfl) ?_
              generalize hwd : World.drew j3 = wd
              have VD1 : Hid (Turn Nn w wd) := Lib.hid (by rw [← hwd]; exact U1.out.drew)
              have SD1 : Hid (wd.cell? ⟨n1, 1, none⟩ = some (.func (.func 99) #[] #[]) ∧ wd.cell? ⟨lb, 3, none⟩ = some (.string (BT t))) := Lib.hid (by rw [← hwd]; exact ⟨G1.out, O1.out⟩)
              have ED1 : Hid (EvAt wd (RB + 1) ⟨r.kind, sl, a, pc, [], 0, r.tag, 0, []⟩) := Lib.hid (by rw [← hwd]; exact Q1.out)
              clear hwd
              have HRD := Lib.hid (read_place (s := t) ht ED1.out (HW.out.turn VD1.out))
              refine held_take 0 ?_ rfl (by kernel_rfl) (by kernel_rfl) (by kernel_rfl) (fun _ _ _ h => h) (Or.inl ⟨by kernel_rfl, ?_⟩) SD1.out ?_
              rotate_left 1
              · intro u hu; obtain ⟨hu1, hu2⟩ := hu; go_simp; first | done | with_reducible rfl
              try simp only [Act.put, nA, nB, nC, nD, nE, nF]
              refine held_take 1 ?_ rfl (by kernel_rfl) (by kernel_rfl) (by kernel_rfl) (fun _ _ _ h => h) (Or.inl ⟨by kernel_rfl, ?_⟩) SD1.out ?_
              rotate_left 1
              · intro u hu; obtain ⟨hu1, hu2⟩ := hu; go_simp; first | done | with_reducible rfl
              try simp only [Act.put, nA, nB, nC, nD, nE, nF]
              refine held_take 2 ?_ rfl (by kernel_rfl) (by kernel_rfl) (by kernel_rfl) (fun _ _ _ h => h) (Or.inl ⟨by kernel_rfl, ?_⟩) SD1.out ?_
              rotate_left 1
              · intro u hu; obtain ⟨hu1, hu2⟩ := hu; go_simp; first | done | with_reducible rfl
              try simp only [Act.put, nA, nB, nC, nD, nE, nF]
              refine held_take 3 ?_ rfl (by kernel_rfl) (by kernel_rfl) (by kernel_rfl) (fun _ _ _ h => h) (Or.inl ⟨by kernel_rfl, ?_⟩) SD1.out ?_
              rotate_left 1
              · intro u hu; obtain ⟨hu1, hu2⟩ := hu; go_simp; first | done | with_reducible rfl
              try simp only [Act.put, nA, nB, nC, nD, nE, nF]
              refine held_take 4 ?_ rfl (by kernel_rfl) (by kernel_rfl) (by kernel_rfl) (fun _ _ _ h => h) (Or.inl ⟨by kernel_rfl, ?_⟩) SD1.out ?_
              rotate_left 1
              · intro u hu; obtain ⟨hu1, hu2⟩ := hu; go_simp; first | done | with_reducible rfl
              try simp only [Act.put, nA, nB, nC, nD, nE, nF]
              refine held_take 5 ?_ rfl (by kernel_rfl) (by kernel_rfl) (by kernel_rfl) (fun _ _ _ h => h) (Or.inl ⟨by kernel_rfl, ?_⟩) SD1.out ?_
              rotate_left 1
              · intro u hu; obtain ⟨hu1, hu2⟩ := hu; go_simp; first | done | with_reducible rfl
              try simp only [Act.put, nA, nB, nC, nD, nE, nF]
              cases hrf1 : readF .place ⟨r.kind, sl, a, pc, [], 0, r.tag, 0, []⟩ t with
              | none =>
                simp only [hrf1] at HRD
                obtain rfl : X = none := by rw [← HX.out]; unfold readR; rw [show readH r (([x, y, z, t, m, u] : List Bs)[0]?.getD []) (([x, y, z, t, m, u] : List Bs)[1]?.getD []) = _ from HRH.out, HF.out]; show (readF .place _ t).bind _ = none; rw [hrf1]; rfl
                refine held_one 6 (by kernel_rfl) rfl (by kernel_rfl) (fun K hK => ?_)
                go_simp
                refine HRD.out.mono ?_
                rintro e w8 ⟨he, t8⟩
                obtain rfl : e = badE := he
                exact ⟨rfl, rfl, VD1.out.off t8 (by have := HRB.out; omega)⟩
              | some E8e =>
                simp only [hrf1] at HRD
                have HRF1 := Lib.hid hrf1
                clear hrf1
                refine held_one 6 (by kernel_rfl) rfl (by kernel_rfl) (fun K hK => ?_)
                go_simp
                refine HRD.out.mono ?_
                rintro e w8 ⟨he, t8⟩
                obtain ⟨rfl, hE8⟩ := he
                have E8 := Lib.hid hE8
                have T8 := Lib.hid (VD1.out.off t8 (by have := HRB.out; omega))
                have S1z : Hid (w8.cell? ⟨n1, 1, none⟩ = some (.func (.func 99) #[] #[]) ∧ w8.cell? ⟨lb, 3, none⟩ = some (.string (BT t))) := Lib.hid ⟨cell_at1 t8 SD1.out.1 N1.out, cell_at1 t8 SD1.out.2 (by show lb ≠ RB + 1; have h1 := HLB.out; have h2 := HRB.out; omega)⟩
                clear t8 hE8
                refine hK _ _ S1z.out ?_
                clear hK K
                try simp only [Act.put, nA, nB, nC, nD, nE, nF]
                refine wpAnyH_done (by kernel_rfl) ?_ _
                have f2a : w8.cell? ⟨b, 2, none⟩ = some (.func (.func 101) #[] #[.pointer (some ⟨bx, 0, none⟩)]) := cell_blk ((T8.out.block b (heap_lt HBF.out) (fun h => h)).trans HBF.out)
                have f2b : w8.cell? ⟨b, 3, none⟩ = some (.func (.func 102) #[] #[.pointer (some ⟨bx, 0, none⟩)]) := cell_blk ((T8.out.block b (heap_lt HBF.out) (fun h => h)).trans HBF.out)
                obtain ⟨j1, j2, j3, e1, e2, e3, kb, tb⟩ := box95 w8 (t := .func (.func 101) #[] #[.pointer (some ⟨bx, 0, none⟩)]) (r := .func (.func 102) #[] #[.pointer (some ⟨bx, 0, none⟩)]) rfl rfl
                have g2 : j3.cell? ⟨w8.heap.size, 1, none⟩ = some (.func (.func 102) #[] #[.pointer (some ⟨bx, 0, none⟩)]) := cell_blk kb
                have G2 := Lib.hid g2
                have U2 := Lib.hid (T8.out.trans tb)
                have Q2 := Lib.hid (E8.out.turn tb)
                have N2 : Hid (w8.heap.size ≠ RB + 1) := Lib.hid (by have := heap_lt E8.out; omega)
                have O2 : Hid (j3.cell? ⟨lb, 5, none⟩ = some (.string (BT u))) := Lib.hid (cell_turn U2.out (HL.out 5 (by simp)))
                clear kb tb g2
                go_wp2_with fail
                rw [rounds_succ]
                go_upto_region 11 with (fail)
                clear f2a f2b e1 e2 e3
                obtain ⟨n2, hn2⟩ : ∃ n, w8.heap.size = n := ⟨_, rfl⟩
                rw [hn2] at G2 N2 ⊢
                clear hn2
                refine held_begin (fun uu => uu.cell? ⟨n2, 1, none⟩ = some (.func (.func 102) #[] #[.pointer (some ⟨bx, 0, none⟩)]) ∧ uu.cell? ⟨lb, 5, none⟩ = some (.string (BT u))) (by kernel_rfl) ?_
                generalize hwd : World.drew j3 = wd
                have VD2 : Hid (Turn Nn w wd) := Lib.hid (by rw [← hwd]; exact U2.out.drew)
                have SD2 : Hid (wd.cell? ⟨n2, 1, none⟩ = some (.func (.func 102) #[] #[.pointer (some ⟨bx, 0, none⟩)]) ∧ wd.cell? ⟨lb, 5, none⟩ = some (.string (BT u))) := Lib.hid (by rw [← hwd]; exact ⟨G2.out, O2.out⟩)
                have ED2 : Hid (EvAt wd (RB + 1) E8e) := Lib.hid (by rw [← hwd]; exact Q2.out)
                clear hwd
                have HRD := Lib.hid (read_label (s := u) hu ED2.out (HBX.out.turn VD2.out) (by have h1 := heap_lt HBX.out; have h2 := HRB.out; omega) (HW.out.turn VD2.out))
                refine held_take 0 ?_ rfl (by kernel_rfl) (by kernel_rfl) (by kernel_rfl) (fun _ _ _ h => h) (Or.inl ⟨by kernel_rfl, ?_⟩) SD2.out ?_
                rotate_left 1
                · intro u hu; obtain ⟨hu1, hu2⟩ := hu; go_simp; first | done | with_reducible rfl
                try simp only [Act.put, nA, nB, nC, nD, nE, nF]
                refine held_take 1 ?_ rfl (by kernel_rfl) (by kernel_rfl) (by kernel_rfl) (fun _ _ _ h => h) (Or.inl ⟨by kernel_rfl, ?_⟩) SD2.out ?_
                rotate_left 1
                · intro u hu; obtain ⟨hu1, hu2⟩ := hu; go_simp; first | done | with_reducible rfl
                try simp only [Act.put, nA, nB, nC, nD, nE, nF]
                refine held_take 2 ?_ rfl (by kernel_rfl) (by kernel_rfl) (by kernel_rfl) (fun _ _ _ h => h) (Or.inl ⟨by kernel_rfl, ?_⟩) SD2.out ?_
                rotate_left 1
                · intro u hu; obtain ⟨hu1, hu2⟩ := hu; go_simp; first | done | with_reducible rfl
                try simp only [Act.put, nA, nB, nC, nD, nE, nF]
                refine held_take 3 ?_ rfl (by kernel_rfl) (by kernel_rfl) (by kernel_rfl) (fun _ _ _ h => h) (Or.inl ⟨by kernel_rfl, ?_⟩) SD2.out ?_
                rotate_left 1
                · intro u hu; obtain ⟨hu1, hu2⟩ := hu; go_simp; first | done | with_reducible rfl
                try simp only [Act.put, nA, nB, nC, nD, nE, nF]
                refine held_take 4 ?_ rfl (by kernel_rfl) (by kernel_rfl) (by kernel_rfl) (fun _ _ _ h => h) (Or.inl ⟨by kernel_rfl, ?_⟩) SD2.out ?_
                rotate_left 1
                · intro u hu; obtain ⟨hu1, hu2⟩ := hu; go_simp; first | done | with_reducible rfl
                try simp only [Act.put, nA, nB, nC, nD, nE, nF]
                refine held_take 5 ?_ rfl (by kernel_rfl) (by kernel_rfl) (by kernel_rfl) (fun _ _ _ h => h) (Or.inl ⟨by kernel_rfl, ?_⟩) SD2.out ?_
                rotate_left 1
                · intro u hu; obtain ⟨hu1, hu2⟩ := hu; go_simp; first | done | with_reducible rfl
                try simp only [Act.put, nA, nB, nC, nD, nE, nF]
                cases hrf2 : readF .label E8e u with
                | none =>
                  simp only [hrf2] at HRD
                  obtain rfl : X = none := by rw [← HX.out]; unfold readR; rw [show readH r (([x, y, z, t, m, u] : List Bs)[0]?.getD []) (([x, y, z, t, m, u] : List Bs)[1]?.getD []) = _ from HRH.out, HF.out]; show (readF .place _ t).bind _ = none; rw [HRF1.out]; exact hrf2
                  refine held_one 6 (by kernel_rfl) rfl (by kernel_rfl) (fun K hK => ?_)
                  go_simp
                  refine HRD.out.mono ?_
                  rintro e w9 ⟨he, t8⟩
                  obtain rfl : e = badE := he
                  exact ⟨rfl, rfl, VD2.out.off t8 (by have := HRB.out; omega)⟩
                | some E9e =>
                  simp only [hrf2] at HRD
                  have HRF2 := Lib.hid hrf2
                  clear hrf2
                  refine held_one 6 (by kernel_rfl) rfl (by kernel_rfl) (fun K hK => ?_)
                  go_simp
                  refine HRD.out.mono ?_
                  rintro e w9 ⟨he, t8⟩
                  obtain ⟨rfl, hE8⟩ := he
                  have E9 := Lib.hid hE8
                  have T9 := Lib.hid (VD2.out.off t8 (by have := HRB.out; omega))
                  have S2z : Hid (w9.cell? ⟨n2, 1, none⟩ = some (.func (.func 102) #[] #[.pointer (some ⟨bx, 0, none⟩)]) ∧ w9.cell? ⟨lb, 5, none⟩ = some (.string (BT u))) := Lib.hid ⟨cell_at1 t8 SD2.out.1 N2.out, cell_at1 t8 SD2.out.2 (by show lb ≠ RB + 1; have h1 := HLB.out; have h2 := HRB.out; omega)⟩
                  clear t8 hE8
                  refine hK _ _ S2z.out ?_
                  clear hK K
                  try simp only [Act.put, nA, nB, nC, nD, nE, nF]
                  refine wpAnyH_done (by kernel_rfl) ?_ _
                  obtain ⟨y0, y1, y2, y3, y4, y5, y6, y7, y8⟩ := evCells E9.out
                  obtain ⟨z0, z1, z2, z3, z4, z5, z6, z7, z8⟩ := evFree E9.out
                  go_wp2_with fail
                  rw [rounds_succ]
                  go_wp2_with fail
                  obtain rfl : X = some E9e := by rw [← HX.out]; unfold readR; rw [show readH r (([x, y, z, t, m, u] : List Bs)[0]?.getD []) (([x, y, z, t, m, u] : List Bs)[1]?.getD []) = _ from HRH.out, HF.out]; show (readF .place _ t).bind _ = _; rw [HRF1.out]; exact HRF2.out
                  refine bodyPost_ret (v := .agg (evC E9e)) (results_cell_row rfl _ _ (RB + 1) 34 _ (0, 0) _ rfl (set9_at E9.out E9e) Tryz.underlying34 rfl (by kernel_rfl)) rfl ?_
                  exact ⟨rfl, T9.out.off (set9_turn E9e) (by have := HRB.out; omega)⟩
            · obtain rfl : X = none := by rw [← HX.out]; unfold readR; rw [show readH r (([x, y, z, t, m, u] : List Bs)[0]?.getD []) (([x, y, z, t, m, u] : List Bs)[1]?.getD []) = none from readH_none5 HCA.out HA.out HSL.out HPC.out (fun h => h1 h.2)]
              go_wp2_with fail
              refine (need_no _).mono ?_
              rintro e w6 ⟨rfl, rfl⟩
              exact ⟨rfl, rfl, T6.out⟩
          · obtain rfl : X = none := by rw [← HX.out]; unfold readR; rw [show readH r (([x, y, z, t, m, u] : List Bs)[0]?.getD []) (([x, y, z, t, m, u] : List Bs)[1]?.getD []) = none from readH_none5 HCA.out HA.out HSL.out HPC.out (fun h => h0 h.1)]
            go_wp2_with fail
            refine (need_no _).mono ?_
            rintro e w6 ⟨rfl, rfl⟩
            exact ⟨rfl, rfl, T6.out⟩
set_option maxRecDepth 100000 in
set_option maxHeartbeats 40000000 in
theorem row_read_two_handed {r : RowD} (hf : r.flds = [.place, .handed]) {x y z t m u : Bs} {v : Value} {w : World} {lb cap : Nat} (hL : WAt w lb [x, y, z, t, m, u]) (hx : x.length ≤ 4000000) (hy : y.length ≤ 4000000) (ht : t.length ≤ 4000000) (hu : u.length ≤ 4000000) (hcap : 6 ≤ cap) (hv : FSl w v r.flds) (hw : Laid w) :
    Calls Tryz.prog 46 #[.agg (rowA r v), .slice (some ⟨lb, 0, none⟩) 6 cap] w (ReadX w (readR r [x, y, z, t, m, u])) := by
  obtain ⟨X, hX⟩ : ∃ X, readR r [x, y, z, t, m, u] = X := ⟨_, rfl⟩
  rw [hX]
  have HX := Lib.hid hX
  have HW := Lib.hid hw
  have HF := Lib.hid hf
  have HL := Lib.hid hL
  have l0 : w.cell? ⟨lb, 0, none⟩ = some (.string (BT x)) := hL 0 (by simp)
  have l1 : w.cell? ⟨lb, 1, none⟩ = some (.string (BT y)) := hL 1 (by simp)
  have HLB := Lib.hid (World.block_lt_of_cell? _ _ l0)
  have HS4 : Hid (3 < w.heap.size) := Lib.hid (by obtain ⟨a, b, h⟩ := hw.rng; exact World.block_lt_of_cell? _ _ h)
  have HCU := fun w (h : Laid w) => Lib.hid (cut_any hy h)
  have HWX := fun w (h : Laid w) => Lib.hid (whole_any hx h)
  rw [hf] at hv
  clear hX hw hf hL
  obtain ⟨b, _, _, _, _, hve, hb, ⟨rfl, rfl⟩, ⟨bx, rfl, rfl, hx0⟩⟩ := hv
  have HVE := Lib.hid hve
  have HBF := Lib.hid hb
  have HBX := Lib.hid hx0
  clear hx0
  clear hve hb
  obtain ⟨w0, hw0⟩ : ∃ w0, w.alloc (.cells (rowA r v) 70) = w0 := ⟨_, rfl⟩
  obtain ⟨bR, tR⟩ := alloc1 hw0
  obtain ⟨w1, hw1⟩ : ∃ w1, w0.alloc (.cells (evC zeroE) 34) = w1 := ⟨_, rfl⟩
  obtain ⟨bE, tE⟩ := alloc1 hw1
  have hs0 : w0.heap.size = w.heap.size + 1 := by rw [← hw0, World.size_alloc]
  rw [hs0] at bE
  obtain ⟨RB, hRB⟩ : ∃ RB, w.heap.size = RB := ⟨_, rfl⟩
  have HRB := Lib.hid hRB
  have R1 : Hid (RowBox w1 RB r v) := Lib.hid (by rw [← hRB]; exact (tE.block _ (heap_lt bR) (fun h => h)).trans bR)
  have E1 : Hid (EvAt w1 (RB + 1) zeroE) := Lib.hid (by rw [← hRB]; exact bE)
  have T1 := Lib.hid (tR.trans tE)
  have m0 := cell_turn T1.out l0
  have m1 := cell_turn T1.out l1
  have M0 := Lib.hid m0
  have hw0' : w.alloc (.cells #[.int .i64 r.kind, .int .i64 r.tag, .string (BT r.word), .string (BT r.msg), v] 70) = w0 := hw0
  have hw1' : w0.alloc (.cells #[.int .i64 0, .int .i64 0, .string ⟨#[]⟩, .int .i64 0, .string ⟨#[]⟩, .int .i64 0, .int .i64 0, .int .i64 0, .string ⟨#[]⟩] 34) = w1 := hw1
  clear bR tR bE tE hw0 hw1 l0 l1 m0
  unfold rowA
  go_enter Tryz.func46, Tryz.ntmps46
  go_wp2_with fail
  refine (HCU _ (HW.out.turn T1.out)).out.mono ?_
  rintro e w2 ⟨rfl, t2⟩
  have T2 := Lib.hid (T1.out.trans t2)
  have R2 := Lib.hid (R1.out.turn t2)
  have E2 := Lib.hid (E1.out.turn t2)
  have M2 := Lib.hid (cell_turn t2 M0.out)
  clear t2 m1
  unfold cutA
  cases hcu : cutC 64 y with
  | none =>
    obtain rfl : X = none := by rw [← HX.out]; unfold readR; rw [show readH r (([x, y, z, t, m, u] : List Bs)[0]?.getD []) (([x, y, z, t, m, u] : List Bs)[1]?.getD []) = none from readH_none1 hcu]
    clear hcu
    go_wp2_with fail
    refine (need_no _).mono ?_
    rintro e wn ⟨rfl, rfl⟩
    exact ⟨rfl, rfl, T2.out⟩
  | some p =>
    obtain ⟨a, p⟩ := p
    have hya := (cutC_some hcu).1
    have hal : a.length ≤ 4000000 := by rw [hya] at hy; simp at hy; omega
    have hpl : p.length ≤ 4000000 := by rw [hya] at hy; simp at hy; omega
    have HCA := Lib.hid hcu
    have HAC := fun w (h : Laid w) => Lib.hid (actor_any hal h)
    have HWP := fun w (h : Laid w) => Lib.hid (whole_any hpl h)
    clear hcu hya hal hpl
    simp only
    cases hac : actorL a with
    | false =>
      obtain rfl : X = none := by rw [← HX.out]; unfold readR; rw [show readH r (([x, y, z, t, m, u] : List Bs)[0]?.getD []) (([x, y, z, t, m, u] : List Bs)[1]?.getD []) = none from readH_none2 HCA.out hac]
      simp only [hac] at HAC
      clear hac
      go_wp2_with fail
      refine (HAC _ (HW.out.turn T2.out)).out.mono ?_
      rintro e w3 ⟨rfl, t3⟩
      have T3 := Lib.hid (T2.out.trans t3)
      clear t3
      go_wp2_with fail
      refine (need_no _).mono ?_
      rintro e wn ⟨rfl, rfl⟩
      exact ⟨rfl, rfl, T3.out⟩
    | true =>
      have HA := Lib.hid hac
      simp only [hac] at HAC
      clear hac
      go_wp2_with fail
      refine (HAC _ (HW.out.turn T2.out)).out.mono ?_
      rintro e w3 ⟨rfl, t3⟩
      have T3 := Lib.hid (T2.out.trans t3)
      have R3 := Lib.hid (R2.out.turn t3)
      have E3 := Lib.hid (E2.out.turn t3)
      have M3 := Lib.hid (cell_turn t3 M2.out)
      clear t3
      go_wp2_with fail
      refine (need_yes _).mono ?_
      rintro e w3 ⟨rfl, rfl⟩
      go_upto_region 3 with (fail)
      refine held_begin (fun u => RowBox u RB r v ∧ u.cell? ⟨lb, 0, none⟩ = some (.string (BT x))) (by kernel_rfl) ?_
      generalize hwd : World.drew w3 = wd
      have VD : Hid (Turn Nn w wd) := Lib.hid (by rw [← hwd]; exact T3.out.drew)
      have SD : Hid (RowBox wd RB r v ∧ wd.cell? ⟨lb, 0, none⟩ = some (.string (BT x))) := Lib.hid (by rw [← hwd]; exact ⟨R3.out, M3.out⟩)
      have ED : Hid (EvAt wd (RB + 1) zeroE) := Lib.hid (by rw [← hwd]; exact E3.out)
      clear hwd
      refine held_take 0 ?_ rfl (by kernel_rfl) (by kernel_rfl) (by kernel_rfl) (fun _ _ _ h => h) (Or.inl ⟨by kernel_rfl, ?_⟩) SD.out ?_
      rotate_left 1
      · intro u hu; obtain ⟨hu1, hu2⟩ := hu; obtain ⟨x0, x1, x2, x3, x4⟩ := rowCells hu1; go_simp; first | done | with_reducible rfl
      try simp only [Act.put, nA, nB, nC, nD, nE, nF]
      refine held_take 1 ?_ rfl (by kernel_rfl) (by kernel_rfl) (by kernel_rfl) (fun _ _ _ h => h) (Or.inl ⟨by kernel_rfl, ?_⟩) SD.out ?_
      rotate_left 1
      · intro u hu; obtain ⟨hu1, hu2⟩ := hu; obtain ⟨x0, x1, x2, x3, x4⟩ := rowCells hu1; go_simp; first | done | with_reducible rfl
      try simp only [Act.put, nA, nB, nC, nD, nE, nF]
      refine held_take 2 ?_ rfl (by kernel_rfl) (by kernel_rfl) (by kernel_rfl) (fun _ _ _ h => h) (Or.inl ⟨by kernel_rfl, ?_⟩) SD.out ?_
      rotate_left 1
      · intro u hu; obtain ⟨hu1, hu2⟩ := hu; obtain ⟨x0, x1, x2, x3, x4⟩ := rowCells hu1; go_simp; first | done | with_reducible rfl
      try simp only [Act.put, nA, nB, nC, nD, nE, nF]
      refine held_take 3 ?_ rfl (by kernel_rfl) (by kernel_rfl) (by kernel_rfl) (fun _ _ _ h => h) (Or.inl ⟨by kernel_rfl, ?_⟩) SD.out ?_
      rotate_left 1
      · intro u hu; obtain ⟨hu1, hu2⟩ := hu; obtain ⟨x0, x1, x2, x3, x4⟩ := rowCells hu1; go_simp; first | done | with_reducible rfl
      try simp only [Act.put, nA, nB, nC, nD, nE, nF]
      refine held_take 4 ?_ rfl (by kernel_rfl) (by kernel_rfl) (by kernel_rfl) (fun _ _ _ h => h) (Or.inl ⟨by kernel_rfl, ?_⟩) SD.out ?_
      rotate_left 1
      · intro u hu; obtain ⟨hu1, hu2⟩ := hu; obtain ⟨x0, x1, x2, x3, x4⟩ := rowCells hu1; go_simp; first | done | with_reducible rfl
      try simp only [Act.put, nA, nB, nC, nD, nE, nF]
      refine held_take 6 ?_ rfl (by kernel_rfl) (by kernel_rfl) (by kernel_rfl) (fun _ _ _ h => h) (Or.inl ⟨by kernel_rfl, ?_⟩) SD.out ?_
      rotate_left 1
      · intro u hu; obtain ⟨hu1, hu2⟩ := hu; obtain ⟨x0, x1, x2, x3, x4⟩ := rowCells hu1; go_simp; first | done | with_reducible rfl
      try simp only [Act.put, nA, nB, nC, nD, nE, nF]
      refine held_take 7 ?_ rfl (by kernel_rfl) (by kernel_rfl) (by kernel_rfl) (fun _ _ _ h => h) (Or.inl ⟨by kernel_rfl, ?_⟩) SD.out ?_
      rotate_left 1
      · intro u hu; obtain ⟨hu1, hu2⟩ := hu; obtain ⟨x0, x1, x2, x3, x4⟩ := rowCells hu1; go_simp; first | done | with_reducible rfl
      try simp only [Act.put, nA, nB, nC, nD, nE, nF]
      refine held_take 9 ?_ rfl (by kernel_rfl) (by kernel_rfl) (by kernel_rfl) (fun _ _ _ h => h) (Or.inl ⟨by kernel_rfl, ?_⟩) SD.out ?_
      rotate_left 1
      · intro u hu; obtain ⟨hu1, hu2⟩ := hu; obtain ⟨x0, x1, x2, x3, x4⟩ := rowCells hu1; go_simp; first | done | with_reducible rfl
      try simp only [Act.put, nA, nB, nC, nD, nE, nF]
      refine held_take 10 ?_ rfl (by kernel_rfl) (by kernel_rfl) (by kernel_rfl) (fun _ _ _ h => h) (Or.inl ⟨by kernel_rfl, ?_⟩) SD.out ?_
      rotate_left 1
      · intro u hu; obtain ⟨hu1, hu2⟩ := hu; obtain ⟨x0, x1, x2, x3, x4⟩ := rowCells hu1; go_simp; first | done | with_reducible rfl
      try simp only [Act.put, nA, nB, nC, nD, nE, nF]
      cases hwx : wholeL x with
      | none =>
        obtain rfl : X = none := by rw [← HX.out]; unfold readR; rw [show readH r (([x, y, z, t, m, u] : List Bs)[0]?.getD []) (([x, y, z, t, m, u] : List Bs)[1]?.getD []) = none from readH_none3 HCA.out HA.out hwx]
        simp only [hwx] at HWX
        clear hwx
        refine held_one 5 (by kernel_rfl) rfl (by kernel_rfl) (fun K hK => ?_)
        go_simp
        refine (HWX _ (HW.out.turn VD.out)).out.mono ?_
        rintro e w4 ⟨he, t4⟩
        obtain rfl : e = badE := he
        exact ⟨rfl, rfl, VD.out.trans t4⟩
      | some sl =>
        have HSL := Lib.hid hwx
        simp only [hwx] at HWX
        clear hwx
        refine held_one 5 (by kernel_rfl) rfl (by kernel_rfl) (fun K hK => ?_)
        go_simp
        refine (HWX _ (HW.out.turn VD.out)).out.mono ?_
        rintro e w4 ⟨he, t4⟩
        obtain rfl : e = .returned (.int .i64 sl) := he
        have T4 := Lib.hid (VD.out.trans t4)
        have S4 : Hid (RowBox w4 RB r v ∧ w4.cell? ⟨lb, 0, none⟩ = some (.string (BT x))) := Lib.hid ⟨SD.out.1.turn t4, cell_turn t4 SD.out.2⟩
        have E4 := Lib.hid (ED.out.turn t4)
        clear t4
        refine hK _ _ S4.out ?_
        clear hK K
        try simp only [Act.put, nA, nB, nC, nD, nE, nF]
        cases hwp : wholeL p with
        | none =>
          obtain rfl : X = none := by rw [← HX.out]; unfold readR; rw [show readH r (([x, y, z, t, m, u] : List Bs)[0]?.getD []) (([x, y, z, t, m, u] : List Bs)[1]?.getD []) = none from readH_none4 HCA.out HA.out hwp]
          simp only [hwp] at HWP
          clear hwp
          refine held_one 8 (by kernel_rfl) rfl (by kernel_rfl) (fun K hK => ?_)
          go_simp
          refine (HWP _ (HW.out.turn T4.out)).out.mono ?_
          rintro e w5 ⟨he, t5⟩
          obtain rfl : e = badE := he
          exact ⟨rfl, rfl, T4.out.trans t5⟩
        | some pc =>
          have HPC := Lib.hid hwp
          simp only [hwp] at HWP
          clear hwp
          refine held_one 8 (by kernel_rfl) rfl (by kernel_rfl) (fun K hK => ?_)
          go_simp
          refine (HWP _ (HW.out.turn T4.out)).out.mono ?_
          rintro e w5 ⟨he, t5⟩
          obtain rfl : e = .returned (.int .i64 pc) := he
          have T5 := Lib.hid (T4.out.trans t5)
          have S5 : Hid (RowBox w5 RB r v ∧ w5.cell? ⟨lb, 0, none⟩ = some (.string (BT x))) := Lib.hid ⟨S4.out.1.turn t5, cell_turn t5 S4.out.2⟩
          have E5 := Lib.hid (E4.out.turn t5)
          clear t5
          refine hK _ _ S5.out ?_
          clear hK K
          try simp only [Act.put, nA, nB, nC, nD, nE, nF]
          refine held_take 11 ?_ rfl (by kernel_rfl) (by kernel_rfl) (by kernel_rfl) (fun _ _ _ h => h) (Or.inl ⟨by kernel_rfl, ?_⟩) S5.out ?_
          rotate_left 1
          · intro u hu; obtain ⟨hu1, hu2⟩ := hu; obtain ⟨x0, x1, x2, x3, x4⟩ := rowCells hu1; go_simp; first | done | with_reducible rfl
          try simp only [Act.put, nA, nB, nC, nD, nE, nF]
          obtain ⟨y0, y1, y2, y3, y4, y5, y6, y7, y8⟩ := evCells E5.out
          obtain ⟨z0, z1, z2, z3, z4, z5, z6, z7, z8⟩ := evFree E5.out
          refine held_one 12 (by kernel_rfl) rfl (by kernel_rfl) (fun K hK => ?_)
          go_simp
          generalize hws : World.setCell _ _ _ = w6
          have E6 : Hid (EvAt w6 (RB + 1) ⟨r.kind, sl, a, pc, [], 0, r.tag, 0, []⟩) := Lib.hid (by rw [← hws]; exact set9_at E5.out ⟨r.kind, sl, a, pc, [], 0, r.tag, 0, []⟩)
          have K6 : Turn (At1 (RB + 1)) w5 w6 := by rw [← hws]; exact set9_turn (B := RB + 1) ⟨r.kind, sl, a, pc, [], 0, r.tag, 0, []⟩
          have T6 := Lib.hid (T5.out.off K6 (by have := HRB.out; omega))
          have S6 : Hid (RowBox w6 RB r v ∧ w6.cell? ⟨lb, 0, none⟩ = some (.string (BT x))) := Lib.hid ⟨(K6.block RB (heap_lt S5.out.1) (fun e => by have h : RB = RB + 1 := e; omega)).trans S5.out.1, cell_at1 K6 S5.out.2 (by show lb ≠ RB + 1; have h1 := HLB.out; have h2 := HRB.out; omega)⟩
          clear hws K6 y0 y1 y2 y3 y4 y5 y6 y7 y8 z0 z1 z2 z3 z4 z5 z6 z7 z8
          refine hK _ _ S6.out ?_
          clear hK K
          try simp only [Act.put, nA, nB, nC, nD, nE, nF]
          refine wpAnyH_done (by kernel_rfl) ?_ _
          have q1 : w6.cell? ⟨RB + 1, 1, none⟩ = some (.int .i64 sl) := (evCells E6.out).2.1
          have q3 : w6.cell? ⟨RB + 1, 3, none⟩ = some (.int .i64 pc) := (evCells E6.out).2.2.2.1
          have x4 := (rowCells S6.out.1).2.2.2.2
          rw [HVE.out] at x4
          by_cases h0 : 0 ≤ sl
          · by_cases h1 : 0 ≤ pc
            · have HRH := Lib.hid (readH_yes (r := r) HCA.out HA.out HSL.out HPC.out ⟨h0, h1⟩)
              go_wp2_with fail
              refine (need_yes _).mono ?_
              rintro e w6 ⟨rfl, rfl⟩
              clear q1 q3 h0 h1
              go_wp2_with fail
              have f1a : w6.cell? ⟨b, 0, none⟩ = some (.func (.func 98) #[] #[]) := cell_blk ((T6.out.block b (heap_lt HBF.out) (fun h => h)).trans HBF.out)
              have f1b : w6.cell? ⟨b, 1, none⟩ = some (.func (.func 99) #[] #[]) := cell_blk ((T6.out.block b (heap_lt HBF.out) (fun h => h)).trans HBF.out)
              obtain ⟨j1, j2, j3, e1, e2, e3, kb, tb⟩ := box95 w6 (t := .func (.func 98) #[] #[]) (r := .func (.func 99) #[] #[]) rfl rfl
              have g1 : j3.cell? ⟨w6.heap.size, 1, none⟩ = some (.func (.func 99) #[] #[]) := cell_blk kb
              have G1 := Lib.hid g1
              have U1 := Lib.hid (T6.out.trans tb)
              have Q1 := Lib.hid (E6.out.turn tb)
              have N1 : Hid (w6.heap.size ≠ RB + 1) := Lib.hid (by have := heap_lt E6.out; omega)
              have O1 : Hid (j3.cell? ⟨lb, 3, none⟩ = some (.string (BT t))) := Lib.hid (cell_turn U1.out (HL.out 3 (by simp)))
              clear kb tb g1
              refine wp_loop_rounds 3 ?_
              rw [rounds_succ]
              go_upto_region 11 with (fail)
              clear f1a f1b e1 e2 e3
              obtain ⟨n1, hn1⟩ : ∃ n, w6.heap.size = n := ⟨_, rfl⟩
              rw [hn1] at G1 N1 ⊢
              clear hn1
              refine held_begin (fun uu => uu.cell? ⟨n1, 1, none⟩ = some (.func (.func 99) #[] #[]) ∧ uu.cell? ⟨lb, 3, none⟩ = some (.string (BT t))) (by kernel_rfl) ?_
              generalize hwd : World.drew j3 = wd
              have VD1 : Hid (Turn Nn w wd) := Lib.hid (by rw [← hwd]; exact U1.out.drew)
              have SD1 : Hid (wd.cell? ⟨n1, 1, none⟩ = some (.func (.func 99) #[] #[]) ∧ wd.cell? ⟨lb, 3, none⟩ = some (.string (BT t))) := Lib.hid (by rw [← hwd]; exact ⟨G1.out, O1.out⟩)
              have ED1 : Hid (EvAt wd (RB + 1) ⟨r.kind, sl, a, pc, [], 0, r.tag, 0, []⟩) := Lib.hid (by rw [← hwd]; exact Q1.out)
              clear hwd
              have HRD := Lib.hid (read_place (s := t) ht ED1.out (HW.out.turn VD1.out))
              refine held_take 0 ?_ rfl (by kernel_rfl) (by kernel_rfl) (by kernel_rfl) (fun _ _ _ h => h) (Or.inl ⟨by kernel_rfl, ?_⟩) SD1.out ?_
              rotate_left 1
              · intro u hu; obtain ⟨hu1, hu2⟩ := hu; go_simp; first | done | with_reducible rfl
              try simp only [Act.put, nA, nB, nC, nD, nE, nF]
              refine held_take 1 ?_ rfl (by kernel_rfl) (by kernel_rfl) (by kernel_rfl) (fun _ _ _ h => h) (Or.inl ⟨by kernel_rfl, ?_⟩) SD1.out ?_
              rotate_left 1
              · intro u hu; obtain ⟨hu1, hu2⟩ := hu; go_simp; first | done | with_reducible rfl
              try simp only [Act.put, nA, nB, nC, nD, nE, nF]
              refine held_take 2 ?_ rfl (by kernel_rfl) (by kernel_rfl) (by kernel_rfl) (fun _ _ _ h => h) (Or.inl ⟨by kernel_rfl, ?_⟩) SD1.out ?_
              rotate_left 1
              · intro u hu; obtain ⟨hu1, hu2⟩ := hu; go_simp; first | done | with_reducible rfl
              try simp only [Act.put, nA, nB, nC, nD, nE, nF]
              refine held_take 3 ?_ rfl (by kernel_rfl) (by kernel_rfl) (by kernel_rfl) (fun _ _ _ h => h) (Or.inl ⟨by kernel_rfl, ?_⟩) SD1.out ?_
              rotate_left 1
              · intro u hu; obtain ⟨hu1, hu2⟩ := hu; go_simp; first | done | with_reducible rfl
              try simp only [Act.put, nA, nB, nC, nD, nE, nF]
              refine held_take 4 ?_ rfl (by kernel_rfl) (by kernel_rfl) (by kernel_rfl) (fun _ _ _ h => h) (Or.inl ⟨by kernel_rfl, ?_⟩) SD1.out ?_
              rotate_left 1
              · intro u hu; obtain ⟨hu1, hu2⟩ := hu; go_simp; first | done | with_reducible rfl
              try simp only [Act.put, nA, nB, nC, nD, nE, nF]
              refine held_take 5 ?_ rfl (by kernel_rfl) (by kernel_rfl) (by kernel_rfl) (fun _ _ _ h => h) (Or.inl ⟨by kernel_rfl, ?_⟩) SD1.out ?_
              rotate_left 1
              · intro u hu; obtain ⟨hu1, hu2⟩ := hu; go_simp; first | done | with_reducible rfl
              try simp only [Act.put, nA, nB, nC, nD, nE, nF]
              cases hrf1 : readF .place ⟨r.kind, sl, a, pc, [], 0, r.tag, 0, []⟩ t with
              | none =>
                simp only [hrf1] at HRD
                obtain rfl : X = none := by rw [← HX.out]; unfold readR; rw [show readH r (([x, y, z, t, m, u] : List Bs)[0]?.getD []) (([x, y, z, t, m, u] : List Bs)[1]?.getD []) = _ from HRH.out, HF.out]; show (readF .place _ t).bind _ = none; rw [hrf1]; rfl
                refine held_one 6 (by kernel_rfl) rfl (by kernel_rfl) (fun K hK => ?_)
                go_simp
                refine HRD.out.mono ?_
                rintro e w8 ⟨he, t8⟩
                obtain rfl : e = badE := he
                exact ⟨rfl, rfl, VD1.out.off t8 (by have := HRB.out; omega)⟩
              | some E8e =>
                simp only [hrf1] at HRD
                have HRF1 := Lib.hid hrf1
                clear hrf1
                refine held_one 6 (by kernel_rfl) rfl (by kernel_rfl) (fun K hK => ?_)
                go_simp
                refine HRD.out.mono ?_
                rintro e w8 ⟨he, t8⟩
                obtain ⟨rfl, hE8⟩ := he
                have E8 := Lib.hid hE8
                have T8 := Lib.hid (VD1.out.off t8 (by have := HRB.out; omega))
                have S1z : Hid (w8.cell? ⟨n1, 1, none⟩ = some (.func (.func 99) #[] #[]) ∧ w8.cell? ⟨lb, 3, none⟩ = some (.string (BT t))) := Lib.hid ⟨cell_at1 t8 SD1.out.1 N1.out, cell_at1 t8 SD1.out.2 (by show lb ≠ RB + 1; have h1 := HLB.out; have h2 := HRB.out; omega)⟩
                clear t8 hE8
                refine hK _ _ S1z.out ?_
                clear hK K
                try simp only [Act.put, nA, nB, nC, nD, nE, nF]
                refine wpAnyH_done (by kernel_rfl) ?_ _
                have f2a : w8.cell? ⟨b, 2, none⟩ = some (.func (.func 104) #[] #[.pointer (some ⟨bx, 0, none⟩)]) := cell_blk ((T8.out.block b (heap_lt HBF.out) (fun h => h)).trans HBF.out)
                have f2b : w8.cell? ⟨b, 3, none⟩ = some (.func (.func 105) #[] #[.pointer (some ⟨bx, 0, none⟩)]) := cell_blk ((T8.out.block b (heap_lt HBF.out) (fun h => h)).trans HBF.out)
                obtain ⟨j1, j2, j3, e1, e2, e3, kb, tb⟩ := box95 w8 (t := .func (.func 104) #[] #[.pointer (some ⟨bx, 0, none⟩)]) (r := .func (.func 105) #[] #[.pointer (some ⟨bx, 0, none⟩)]) rfl rfl
                have g2 : j3.cell? ⟨w8.heap.size, 1, none⟩ = some (.func (.func 105) #[] #[.pointer (some ⟨bx, 0, none⟩)]) := cell_blk kb
                have G2 := Lib.hid g2
                have U2 := Lib.hid (T8.out.trans tb)
                have Q2 := Lib.hid (E8.out.turn tb)
                have N2 : Hid (w8.heap.size ≠ RB + 1) := Lib.hid (by have := heap_lt E8.out; omega)
                have O2 : Hid (j3.cell? ⟨lb, 5, none⟩ = some (.string (BT u))) := Lib.hid (cell_turn U2.out (HL.out 5 (by simp)))
                clear kb tb g2
                go_wp2_with fail
                rw [rounds_succ]
                go_upto_region 11 with (fail)
                clear f2a f2b e1 e2 e3
                obtain ⟨n2, hn2⟩ : ∃ n, w8.heap.size = n := ⟨_, rfl⟩
                rw [hn2] at G2 N2 ⊢
                clear hn2
                refine held_begin (fun uu => uu.cell? ⟨n2, 1, none⟩ = some (.func (.func 105) #[] #[.pointer (some ⟨bx, 0, none⟩)]) ∧ uu.cell? ⟨lb, 5, none⟩ = some (.string (BT u))) (by kernel_rfl) ?_
                generalize hwd : World.drew j3 = wd
                have VD2 : Hid (Turn Nn w wd) := Lib.hid (by rw [← hwd]; exact U2.out.drew)
                have SD2 : Hid (wd.cell? ⟨n2, 1, none⟩ = some (.func (.func 105) #[] #[.pointer (some ⟨bx, 0, none⟩)]) ∧ wd.cell? ⟨lb, 5, none⟩ = some (.string (BT u))) := Lib.hid (by rw [← hwd]; exact ⟨G2.out, O2.out⟩)
                have ED2 : Hid (EvAt wd (RB + 1) E8e) := Lib.hid (by rw [← hwd]; exact Q2.out)
                clear hwd
                have HRD := Lib.hid (read_handed (s := u) hu ED2.out (HBX.out.turn VD2.out) (HW.out.turn VD2.out))
                refine held_take 0 ?_ rfl (by kernel_rfl) (by kernel_rfl) (by kernel_rfl) (fun _ _ _ h => h) (Or.inl ⟨by kernel_rfl, ?_⟩) SD2.out ?_
                rotate_left 1
                · intro u hu; obtain ⟨hu1, hu2⟩ := hu; go_simp; first | done | with_reducible rfl
                try simp only [Act.put, nA, nB, nC, nD, nE, nF]
                refine held_take 1 ?_ rfl (by kernel_rfl) (by kernel_rfl) (by kernel_rfl) (fun _ _ _ h => h) (Or.inl ⟨by kernel_rfl, ?_⟩) SD2.out ?_
                rotate_left 1
                · intro u hu; obtain ⟨hu1, hu2⟩ := hu; go_simp; first | done | with_reducible rfl
                try simp only [Act.put, nA, nB, nC, nD, nE, nF]
                refine held_take 2 ?_ rfl (by kernel_rfl) (by kernel_rfl) (by kernel_rfl) (fun _ _ _ h => h) (Or.inl ⟨by kernel_rfl, ?_⟩) SD2.out ?_
                rotate_left 1
                · intro u hu; obtain ⟨hu1, hu2⟩ := hu; go_simp; first | done | with_reducible rfl
                try simp only [Act.put, nA, nB, nC, nD, nE, nF]
                refine held_take 3 ?_ rfl (by kernel_rfl) (by kernel_rfl) (by kernel_rfl) (fun _ _ _ h => h) (Or.inl ⟨by kernel_rfl, ?_⟩) SD2.out ?_
                rotate_left 1
                · intro u hu; obtain ⟨hu1, hu2⟩ := hu; go_simp; first | done | with_reducible rfl
                try simp only [Act.put, nA, nB, nC, nD, nE, nF]
                refine held_take 4 ?_ rfl (by kernel_rfl) (by kernel_rfl) (by kernel_rfl) (fun _ _ _ h => h) (Or.inl ⟨by kernel_rfl, ?_⟩) SD2.out ?_
                rotate_left 1
                · intro u hu; obtain ⟨hu1, hu2⟩ := hu; go_simp; first | done | with_reducible rfl
                try simp only [Act.put, nA, nB, nC, nD, nE, nF]
                refine held_take 5 ?_ rfl (by kernel_rfl) (by kernel_rfl) (by kernel_rfl) (fun _ _ _ h => h) (Or.inl ⟨by kernel_rfl, ?_⟩) SD2.out ?_
                rotate_left 1
                · intro u hu; obtain ⟨hu1, hu2⟩ := hu; go_simp; first | done | with_reducible rfl
                try simp only [Act.put, nA, nB, nC, nD, nE, nF]
                cases hrf2 : readF .handed E8e u with
                | none =>
                  simp only [hrf2] at HRD
                  obtain rfl : X = none := by rw [← HX.out]; unfold readR; rw [show readH r (([x, y, z, t, m, u] : List Bs)[0]?.getD []) (([x, y, z, t, m, u] : List Bs)[1]?.getD []) = _ from HRH.out, HF.out]; show (readF .place _ t).bind _ = none; rw [HRF1.out]; exact hrf2
                  refine held_one 6 (by kernel_rfl) rfl (by kernel_rfl) (fun K hK => ?_)
                  go_simp
                  refine HRD.out.mono ?_
                  rintro e w9 ⟨he, t8⟩
                  obtain rfl : e = badE := he
                  exact ⟨rfl, rfl, VD2.out.off t8 (by have := HRB.out; omega)⟩
                | some E9e =>
                  simp only [hrf2] at HRD
                  have HRF2 := Lib.hid hrf2
                  clear hrf2
                  refine held_one 6 (by kernel_rfl) rfl (by kernel_rfl) (fun K hK => ?_)
                  go_simp
                  refine HRD.out.mono ?_
                  rintro e w9 ⟨he, t8⟩
                  obtain ⟨rfl, hE8⟩ := he
                  have E9 := Lib.hid hE8
                  have T9 := Lib.hid (VD2.out.off t8 (by have := HRB.out; omega))
                  have S2z : Hid (w9.cell? ⟨n2, 1, none⟩ = some (.func (.func 105) #[] #[.pointer (some ⟨bx, 0, none⟩)]) ∧ w9.cell? ⟨lb, 5, none⟩ = some (.string (BT u))) := Lib.hid ⟨cell_at1 t8 SD2.out.1 N2.out, cell_at1 t8 SD2.out.2 (by show lb ≠ RB + 1; have h1 := HLB.out; have h2 := HRB.out; omega)⟩
                  clear t8 hE8
                  refine hK _ _ S2z.out ?_
                  clear hK K
                  try simp only [Act.put, nA, nB, nC, nD, nE, nF]
                  refine wpAnyH_done (by kernel_rfl) ?_ _
                  obtain ⟨y0, y1, y2, y3, y4, y5, y6, y7, y8⟩ := evCells E9.out
                  obtain ⟨z0, z1, z2, z3, z4, z5, z6, z7, z8⟩ := evFree E9.out
                  go_wp2_with fail
                  rw [rounds_succ]
                  go_wp2_with fail
                  obtain rfl : X = some E9e := by rw [← HX.out]; unfold readR; rw [show readH r (([x, y, z, t, m, u] : List Bs)[0]?.getD []) (([x, y, z, t, m, u] : List Bs)[1]?.getD []) = _ from HRH.out, HF.out]; show (readF .place _ t).bind _ = _; rw [HRF1.out]; exact HRF2.out
                  refine bodyPost_ret (v := .agg (evC E9e)) (results_cell_row rfl _ _ (RB + 1) 34 _ (0, 0) _ rfl (set9_at E9.out E9e) Tryz.underlying34 rfl (by kernel_rfl)) rfl ?_
                  exact ⟨rfl, T9.out.off (set9_turn E9e) (by have := HRB.out; omega)⟩
            · obtain rfl : X = none := by rw [← HX.out]; unfold readR; rw [show readH r (([x, y, z, t, m, u] : List Bs)[0]?.getD []) (([x, y, z, t, m, u] : List Bs)[1]?.getD []) = none from readH_none5 HCA.out HA.out HSL.out HPC.out (fun h => h1 h.2)]
              go_wp2_with fail
              refine (need_no _).mono ?_
              rintro e w6 ⟨rfl, rfl⟩
              exact ⟨rfl, rfl, T6.out⟩
          · obtain rfl : X = none := by rw [← HX.out]; unfold readR; rw [show readH r (([x, y, z, t, m, u] : List Bs)[0]?.getD []) (([x, y, z, t, m, u] : List Bs)[1]?.getD []) = none from readH_none5 HCA.out HA.out HSL.out HPC.out (fun h => h0 h.1)]
            go_wp2_with fail
            refine (need_no _).mono ?_
            rintro e w6 ⟨rfl, rfl⟩
            exact ⟨rfl, rfl, T6.out⟩
end Go.Proofs.YtpbjblbeepbklaaGreatDoor
