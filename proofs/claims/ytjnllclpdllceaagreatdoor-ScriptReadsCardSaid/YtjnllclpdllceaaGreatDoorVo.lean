/- ScriptBack's walk. -/
import Derived.Test.YtjnllclpdllceaaGreatDoorVn
import Derived.Test.YtjnllclpdllceaaGreatDoorVi
import Derived.Test.YtjnllclpdllceaaGreatDoorSu
import Derived.Deep.DeepCutAuto
namespace Go.Proofs.YtjnllclpdllceaaGreatDoor
set_option linter.unusedSimpArgs false
set_option linter.unusedVariables false
open Go.RowKit Go.Shelf

theorem BSl.turn {w w' : World} {v : Value} {l : Bs} (h : BSl w v l) (t : Turn Nn w w') : BSl w' v l := by
  obtain ⟨pa, cap, h1, h2, h3⟩ := h
  exact ⟨pa, cap, h1, h2, fun n hn W tW => h3 n hn W (t.trans tW)⟩
theorem ASl.turn {w w' : World} {v : Value} {N : Nat} (h : ASl w v N) (t : Turn Nn w w') : ASl w' v N := by
  obtain ⟨pt, ct, h1, h2, h3⟩ := h
  refine ⟨pt, ct, h1, h2, fun i hi => ?_⟩
  obtain ⟨b, o, x, y, z, e, hx, hy, hz, c0, c1, c2⟩ := h3 i hi
  exact ⟨b, o, x, y, z, e, hx, hy, hz, cell_turn t c0, cell_turn t c1, cell_turn t c2⟩

theorem cut_text (t0 : Bs) : ∃ u : Bs, (BT t0).extract 0 (min ((BT t0).size : Int) 20000).toNat = BT u ∧ u.length ≤ 20000 := by
  refine ⟨((BT t0).extract 0 (min ((BT t0).size : Int) 20000).toNat).data.toList, ?_, ?_⟩
  · have key : ∀ b : ByteArray, b = BT b.data.toList := fun b => by
      cases b with
      | mk d => show (⟨d⟩ : ByteArray) = ⟨d.toList.toArray⟩; rw [Array.toArray_toList]
    exact key _
  · rw [Array.length_toList]
    show ((BT t0).extract 0 (min ((BT t0).size : Int) 20000).toNat).size ≤ 20000
    rw [ByteArray.size_extract]
    omega

set_option maxRecDepth 100000 in
set_option maxHeartbeats 16000000 in
theorem back_any {a0 a1 a2 odd N : Nat} {tw : Bool} {mv tv : Value} {l : Bs} {t0 : Bs} {w : World} (h0 : a0 < 256) (h1 : a1 < 256) (h2 : a2 < 256) (ho : odd < 256) (hm : BSl w mv l) (hl : l.length ≤ 9223372036854775807) (ht : ASl w tv N) (hN : N ≤ 9223372036854775807)
    (hlw : Laid w) (hmx : Mx w) (he : ET w) :
    Calls Tryz.prog 5 #[.agg (dcells a0 a1 a2 tw mv tv odd), .string (BT t0)] w fun e w' => e = .returned (.bool true) ∧ Turn Nn w w' := by
  obtain ⟨w1, hw1⟩ : ∃ w1, w.alloc (.cells (dcells a0 a1 a2 tw mv tv odd) 31) = w1 := ⟨_, rfl⟩
  obtain ⟨b1, t1⟩ := alloc1 hw1
  have B1 := Lib.hid b1
  have T1 := Lib.hid t1
  have W1 := Lib.hid (works_any (hlw.turn t1) (hmx.turn t1) (he.turn t1))
  have HM := Lib.hid (hm.turn t1)
  have HT := Lib.hid (ht.turn t1)
  have HL := Lib.hid hlw
  have HMX := Lib.hid hmx
  clear b1 t1 hm ht hlw hmx he
  simp only [dcells] at hw1 ⊢
  go_enter Tryz.func5, Tryz.ntmps5
  go_wp2_with fail
  refine W1.out.mono ?_
  rintro e w2 ⟨rfl, t2⟩
  have T2 := Lib.hid t2
  clear t2
  obtain ⟨f0, f1, f2, f3, f4, f5, f6⟩ := cells7 ((T2.out.block _ (heap_lt B1.out) (fun h => h)).trans B1.out)
  go_wp2_with fail
  refine (drafted_any (odd := odd) h0 h1 h2 ho (HM.out.turn T2.out) hl (HT.out.turn T2.out) hN).mono ?_
  rintro e w3 ⟨s, v, rfl, hv, hs1, hs2, t3⟩
  obtain ⟨pv, cv, rfl⟩ := hv.shape
  have T3 := Lib.hid t3
  have HV := Lib.hid hv
  clear t3 hv
  simp only [scriptA]
  go_upto_region 4 with (fail)
  generalize hW : World.alloc w3 _ = w4
  obtain ⟨b4, t4⟩ := alloc1 hW
  have B4 := Lib.hid b4
  have T14 := Lib.hid ((T2.out.trans T3.out).trans t4)
  have V4 := Lib.hid (HV.out.turn t4)
  obtain ⟨g0, g1, g2, g3, g4, g5⟩ := cells6 b4
  clear hW b4 t4 f0 f1 f2 f3 f4 f5 f6
  go_wp2_with fail
  have PR := print_any (s := s) (HL.out.turn (T1.out.trans T14.out)) V4.out (by omega) (by omega)
  refine PR.mono ?_
  rintro e w5 ⟨rfl, t5⟩
  have T5 := Lib.hid t5
  clear t5 PR g0 g1 g2 g3 g4 g5
  obtain ⟨x, c, hpr⟩ : ∃ x c, printD s = (x, c) := ⟨_, _, rfl⟩
  rw [hpr]
  have HPR := Lib.hid hpr
  clear hpr
  by_cases hc : c = 0
  · subst hc
    go_wp2_with fail
    have HPP := Lib.hid (parse_print HPR.out)
    obtain ⟨hvd, hx⟩ := printD_ok HPR.out
    have hlen : x.length ≤ 89998 := by rw [hx]; have := text_short hvd hs2 hs1; omega
    clear hx
    refine (parse_any x (HL.out.turn ((T1.out.trans T14.out).trans T5.out)) (HMX.out.turn ((T1.out.trans T14.out).trans T5.out)) hlen).mono ?_
    rintro e w6 ⟨hp, t6⟩
    rw [HPP.out] at hp
    obtain ⟨v', rfl, ho⟩ := hp
    obtain ⟨pw, cw, rfl⟩ := (TSl.own ho).shape
    have V6 := Lib.hid (TSl.own ho)
    have T6 := Lib.hid (T5.out.trans t6)
    clear ho t6
    simp only [scriptV]
    go_upto_region 7 with (fail)
    generalize hW : World.alloc w6 _ = w7
    obtain ⟨b7, t7⟩ := alloc1 hW
    have T47 := Lib.hid (T6.out.trans t7)
    obtain ⟨g0, g1, g2, g3, g4, g5⟩ := cells6 b7
    obtain ⟨d0, d1, d2, d3, d4, d5⟩ := cells6 ((T47.out.block _ (heap_lt B4.out) (fun h => h)).trans B4.out)
    have V7 := Lib.hid (V6.out.turn t7)
    have V4b := Lib.hid (V4.out.turn T47.out)
    clear hW b7 t7
    go_wp2_with fail
    refine (same_any V7.out V4b.out (by omega)).mono ?_
    rintro e w8 ⟨rfl, t8⟩
    have T8 := Lib.hid (T47.out.trans t8)
    clear t8 g0 g1 g2 g3 g4 g5 d0 d1 d2 d3 d4 d5
    go_wp2_with fail
    have T18 := Lib.hid (T14.out.trans T8.out)
    obtain ⟨u, hu, hul⟩ : ∃ u : Bs, (BT t0).extract 0 (min ((BT t0).size : Int) 20000).toNat = BT u ∧ u.length ≤ 20000 := cut_text t0
    rw [hu]
    clear hu
    refine (parse_any u (HL.out.turn (T1.out.trans T18.out)) (HMX.out.turn (T1.out.trans T18.out)) (by omega)).mono ?_
    rintro e y6 ⟨hp, r6⟩
    have R6 := Lib.hid r6
    clear r6
    cases hpu : parseD u with
    | error cn =>
      obtain ⟨c9, n9⟩ := cn
      rw [hpu] at hp
      obtain ⟨f, rfl, _, _⟩ := hp
      simp only [sZero]
      go_upto_region 14 with (fail)
      generalize hW : World.alloc y6 _ = y7
      obtain ⟨b7, r7⟩ := alloc1 hW
      obtain ⟨g0, g1, g2, g3, g4, g5⟩ := cells6 b7
      have R7 := Lib.hid (R6.out.trans r7)
      clear hW b7 r7
      go_wp2_with fail
      refine (same_any (s := ⟨0, 0, 0, false, [], []⟩) (v1 := .slice none 0 0) (v2 := .slice none 0 0) (.inl ⟨rfl, _, _, rfl⟩) (.inl ⟨rfl, _, _, rfl⟩) (by decide)).mono ?_
      rintro e y8 ⟨rfl, r8⟩
      have R8 := Lib.hid r8
      clear r8
      go_wp2_with fail
      go_ret
      exact ⟨rfl, ((T1.out.trans T18.out).trans R7.out).trans R8.out⟩
    | ok s9 =>
      rw [hpu] at hp
      obtain ⟨v9, rfl, ho9⟩ := hp
      obtain ⟨p9, c9, rfl⟩ := (TSl.own ho9).shape
      have V9 := Lib.hid (TSl.own ho9)
      have hpp9 := print_parse hpu
      obtain ⟨hvd9, _⟩ := printD_ok hpp9
      have hv1 := hvd9.most
      have hv2 := hvd9.bytes
      have HPP9 := Lib.hid hpp9
      clear ho9 hpp9 hvd9
      simp only [scriptV]
      go_upto_region 15 with (fail)
      generalize hW : World.alloc y6 _ = y7
      obtain ⟨b7, r7⟩ := alloc1 hW
      obtain ⟨g0, g1, g2, g3, g4, g5⟩ := cells6 b7
      have R7 := Lib.hid (R6.out.trans r7)
      have V97 := Lib.hid (V9.out.turn r7)
      clear hW b7 r7
      go_wp2_with fail
      refine (print_any (HL.out.turn ((T1.out.trans T18.out).trans R7.out)) V97.out (by omega) (by omega)).mono ?_
      rintro e y8 ⟨rfl, r8⟩
      have R8 := Lib.hid r8
      clear r8
      rw [HPP9.out]
      go_wp2_with fail
      go_ret
      exact ⟨by simp, ((T1.out.trans T18.out).trans R7.out).trans R8.out⟩
  · have hc1 : decide (c = 0) = false := decide_eq_false hc
    have hx : x = [] := by
      have h := HPR.out
      unfold printD at h
      split at h
      · simp only [Prod.mk.injEq] at h; exact h.1.symm
      · split at h
        · simp only [Prod.mk.injEq] at h; exact h.1.symm
        · simp only [Prod.mk.injEq] at h; exact absurd h.2.symm hc
    subst hx
    have hb0 : BT [] = ⟨#[]⟩ := rfl
    rw [hb0]
    clear hb0
    go_wp2_with fail
    have T15 := Lib.hid (T14.out.trans T5.out)
    obtain ⟨u, hu, hul⟩ : ∃ u : Bs, (BT t0).extract 0 (min ((BT t0).size : Int) 20000).toNat = BT u ∧ u.length ≤ 20000 := cut_text t0
    rw [hu]
    clear hu
    refine (parse_any u (HL.out.turn (T1.out.trans T15.out)) (HMX.out.turn (T1.out.trans T15.out)) (by omega)).mono ?_
    rintro e y6 ⟨hp, r6⟩
    have R6 := Lib.hid r6
    clear r6
    cases hpu : parseD u with
    | error cn =>
      obtain ⟨c9, n9⟩ := cn
      rw [hpu] at hp
      obtain ⟨f, rfl, _, _⟩ := hp
      simp only [sZero]
      go_upto_region 14 with (fail)
      generalize hW : World.alloc y6 _ = y7
      obtain ⟨b7, r7⟩ := alloc1 hW
      obtain ⟨g0, g1, g2, g3, g4, g5⟩ := cells6 b7
      have R7 := Lib.hid (R6.out.trans r7)
      clear hW b7 r7
      go_wp2_with fail
      refine (same_any (s := ⟨0, 0, 0, false, [], []⟩) (v1 := .slice none 0 0) (v2 := .slice none 0 0) (.inl ⟨rfl, _, _, rfl⟩) (.inl ⟨rfl, _, _, rfl⟩) (by decide)).mono ?_
      rintro e y8 ⟨rfl, r8⟩
      have R8 := Lib.hid r8
      clear r8
      go_wp2_with fail
      go_ret
      exact ⟨rfl, ((T1.out.trans T15.out).trans R7.out).trans R8.out⟩
    | ok s9 =>
      rw [hpu] at hp
      obtain ⟨v9, rfl, ho9⟩ := hp
      obtain ⟨p9, c9, rfl⟩ := (TSl.own ho9).shape
      have V9 := Lib.hid (TSl.own ho9)
      have hpp9 := print_parse hpu
      obtain ⟨hvd9, _⟩ := printD_ok hpp9
      have hv1 := hvd9.most
      have hv2 := hvd9.bytes
      have HPP9 := Lib.hid hpp9
      clear ho9 hpp9 hvd9
      simp only [scriptV]
      go_upto_region 15 with (fail)
      generalize hW : World.alloc y6 _ = y7
      obtain ⟨b7, r7⟩ := alloc1 hW
      obtain ⟨g0, g1, g2, g3, g4, g5⟩ := cells6 b7
      have R7 := Lib.hid (R6.out.trans r7)
      have V97 := Lib.hid (V9.out.turn r7)
      clear hW b7 r7
      go_wp2_with fail
      refine (print_any (HL.out.turn ((T1.out.trans T15.out).trans R7.out)) V97.out (by omega) (by omega)).mono ?_
      rintro e y8 ⟨rfl, r8⟩
      have R8 := Lib.hid r8
      clear r8
      rw [HPP9.out]
      go_wp2_with fail
      go_ret
      exact ⟨by simp, ((T1.out.trans T15.out).trans R7.out).trans R8.out⟩
end Go.Proofs.YtjnllclpdllceaaGreatDoor
