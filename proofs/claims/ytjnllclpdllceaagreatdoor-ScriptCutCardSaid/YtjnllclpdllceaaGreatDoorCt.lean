/- ScriptCut's walk. -/
import Derived.Test.YtjnllclpdllceaaGreatDoorVo
import Derived.Test.YtjnllclpdllceaaGreatDoorShelf
namespace Go.Proofs.YtjnllclpdllceaaGreatDoor
set_option linter.unusedSimpArgs false
set_option linter.unusedVariables false
open Go.RowKit Go.Shelf

set_option maxRecDepth 100000 in
set_option maxHeartbeats 16000000 in
theorem cut_any {a0 a1 a2 odd N k : Nat} {tw : Bool} {mv tv : Value} {l : Bs} {w : World} (h0 : a0 < 256) (h1 : a1 < 256) (h2 : a2 < 256) (ho : odd < 256) (hm : BSl w mv l) (hl : l.length ≤ 9223372036854775807) (ht : ASl w tv N) (hN : N ≤ 9223372036854775807)
    (hlw : Laid w) (hmx : Mx w) (he : ET w) (hk : k < 65536) :
    Calls Tryz.prog 6 #[.agg (dcells a0 a1 a2 tw mv tv odd), .int .u16 (k : Int)] w fun e w' => e = .returned (.bool true) ∧ Turn Nn w w' := by
  obtain ⟨w1, hw1⟩ : ∃ w1, w.alloc (.cells (dcells a0 a1 a2 tw mv tv odd) 31) = w1 := ⟨_, rfl⟩
  obtain ⟨b1, t1⟩ := alloc1 hw1
  have B1 := Lib.hid b1
  have T1 := Lib.hid t1
  have W1 := Lib.hid (works_any (hlw.turn t1) (hmx.turn t1) (he.turn t1))
  have HM := Lib.hid (hm.turn t1)
  have HT := Lib.hid (ht.turn t1)
  have HL := Lib.hid hlw
  have HMX := Lib.hid hmx
  have HE := Lib.hid he
  clear b1 t1 hm ht hlw hmx he
  simp only [dcells] at hw1 ⊢
  go_enter Tryz.func6, Tryz.ntmps6
  go_wp2_with fail
  refine W1.out.mono ?_
  rintro e w2 ⟨rfl, t2⟩
  have T2 := Lib.hid t2
  clear t2
  obtain ⟨f0, f1, f2, f3, f4, f5, f6⟩ := cells7 ((T2.out.block _ (heap_lt B1.out) (fun h => h)).trans B1.out)
  go_wp2_with fail
  refine (drafted_any (odd := odd) h0 h1 h2 ho (HM.out.turn T2.out) hl (HT.out.turn T2.out) hN).mono ?_
  rintro e w3 ⟨s, v, rfl, hv, hs1, hs2, t3⟩
  obtain ⟨pv, cv, rfl⟩ := hv.shape
  have T3 := Lib.hid t3
  have HV := Lib.hid hv
  clear t3 hv
  simp only [scriptA]
  clear f0 f1 f2 f3 f4 f5 f6
  go_wp2_with fail
  have PR := print_any (s := s) (HL.out.turn (T1.out.trans (T2.out.trans T3.out))) HV.out (by omega) (by omega)
  refine PR.mono ?_
  rintro e w5 ⟨rfl, t5⟩
  have T5 := Lib.hid ((T2.out.trans T3.out).trans t5)
  clear t5 PR
  obtain ⟨x, c, hpr⟩ : ∃ x c, printD s = (x, c) := ⟨_, _, rfl⟩
  rw [hpr]
  have HPR := Lib.hid hpr
  clear hpr
  by_cases hc : c = 0
  · subst hc
    obtain ⟨hvd, hx⟩ := printD_ok HPR.out
    have hlen : x.length ≤ 89998 := by rw [hx]; have := text_short hvd hs2 hs1; omega
    have hx1 : 1 ≤ x.length := by
      rw [hx]; unfold textT; simp; omega
    have hsz : (BT x).size = x.length := by unfold BT; simp [ByteArray.size]
    have hs1 : 1 ≤ (BT x).size := by omega
    have hs2 : (BT x).size ≤ 89998 := by omega
    have hne : decide (((BT x).size : Int) = 0) = false := decide_eq_false (by omega)
    obtain ⟨n, hn⟩ : ∃ n : Nat, k % (x.length + 1) = n := ⟨_, rfl⟩
    have hnl : n ≤ (BT x).size := by rw [hsz, ← hn]; have := Nat.mod_lt k (show 0 < x.length + 1 by omega); omega
    have hmod : (k : Int) % (((BT x).size : Int) + 1) = (n : Int) := by rw [hsz, ← hn]; simp
    have htm : (k : Int).tmod (((BT x).size : Int) + 1) = (n : Int) := by rw [Int.tmod_eq_emod_of_nonneg (by omega)]; exact hmod
    have hcut : (BT x).extract 0 n = BT (x.take n) := by
      unfold BT; apply ByteArray.ext; simp [ByteArray.data_extract]
    have HSZ := Lib.hid hsz
    have HX := Lib.hid hx
    have HVD := Lib.hid hvd
    clear hx hsz hn hvd hx1
    go_wp2_with fail
    have HCL := cut_law HVD.out n
    rw [← HX.out] at HCL
    have HPA := Lib.hid (parse_any (x.take n) (HL.out.turn (T1.out.trans T5.out)) (HMX.out.turn (T1.out.trans T5.out)) (by simp; omega))
    rcases HCL with ⟨u, hu1, hu2, hu3, hu4⟩ | ⟨hu1, hu2⟩
    · have HU1 := Lib.hid hu1
      have HU4 := Lib.hid hu4
      have hvu := (printD_ok hu4).1
      have hv1 := hvu.most
      have hv2 := hvu.bytes
      clear hvu
      have hn0 : n ≠ 0 := by rintro rfl; simp at hu2
      have hlast : x[n - 1]? = some 10 := by
        rw [List.getLast?_eq_getElem?, List.length_take, Nat.min_eq_left (by have := HSZ.out; omega), List.getElem?_take_of_lt (by omega)] at hu3
        exact hu3
      have hbyte : ∀ h : n - 1 < (BT x).size, ((BT x)[n - 1]'h).toNat = 10 := by
        intro h
        obtain ⟨h2, h3⟩ := List.getElem?_eq_some_iff.1 hlast
        have h4 : (BT x)[n - 1]'h = x[n - 1]'h2 := by unfold BT; rfl
        rw [h4, h3]; rfl
      have HBY := Lib.hid hbyte
      clear hu1 hu2 hu3 hu4 hlast hbyte
      refine HPA.out.mono ?_
      rintro e w6 ⟨hp, t6⟩
      rw [HU1.out] at hp
      obtain ⟨v', rfl, ho⟩ := hp
      obtain ⟨pw, cw, rfl⟩ := (TSl.own ho).shape
      have V6 := Lib.hid (TSl.own ho)
      have T6 := Lib.hid (T5.out.trans t6)
      clear ho t6
      simp only [scriptV]
      go_upto_region 10 with (fail)
      generalize hW : World.alloc w6 _ = w7
      obtain ⟨b7, t7⟩ := alloc1 hW
      obtain ⟨g0, g1, g2, g3, g4, g5⟩ := cells6 b7
      have T7 := Lib.hid (T6.out.trans t7)
      have V7 := Lib.hid (V6.out.turn t7)
      clear hW b7 t7
      go_wp2_with fail
      refine (Tryz.strings_Count_one _ 10 _).mono ?_
      rintro e w8 ⟨rfl, rfl⟩
      have hd0 : decide ((n : Int) = 0) = false := decide_eq_false (by omega)
      go_wp2_with fail
      · exfalso
        rcases (‹(_ == (0 : Int)) = true ∨ _›) with e | e
        · simp at e; exact hn0 e
        · rw [HBY.out] at e; simp at e
      · refine (print_any (HL.out.turn (T1.out.trans T7.out)) V7.out (by omega) (by omega)).mono ?_
        rintro e y8 ⟨rfl, r8⟩
        have R8 := Lib.hid r8
        clear r8
        rw [HU4.out]
        go_wp2_with fail
        go_ret
        exact ⟨by simp, (T1.out.trans T7.out).trans R8.out⟩
    · have hcnt : (Lib.countByte (BT (x.take n)).data.toList 10 : Nat) = ends (x.take n) := by
        unfold BT Lib.countByte ends
        rw [List.count_eq_length_filter]
        rfl
      obtain ⟨E, hE⟩ : ∃ E, ends (x.take n) = E := ⟨_, rfl⟩
      rw [hE] at hu1 hcnt
      have HU1 := Lib.hid hu1
      have HU2 := Lib.hid hu2
      clear hE
      have HCN := Lib.hid hcnt
      clear hu1 hu2 hcnt
      refine HPA.out.mono ?_
      rintro e w6 ⟨hp, t6⟩
      rw [HU1.out] at hp
      obtain ⟨f, rfl, hf, _⟩ := hp
      have T6 := Lib.hid (T5.out.trans t6)
      have HF := Lib.hid hf
      clear t6 hf
      simp only [sZero]
      go_upto_region 10 with (fail)
      generalize hW : World.alloc w6 _ = w7
      obtain ⟨b7, t7⟩ := alloc1 hW
      have T7 := Lib.hid (T6.out.trans t7)
      have HF7 := Lib.hid ((t7.block _ (heap_lt HF.out) (fun h => h)).trans HF.out)
      obtain ⟨g0, g1, g2, g3, g4, g5⟩ := cells6 b7
      clear hW b7 t7
      go_wp2_with fail
      refine (Tryz.strings_Count_one _ 10 _).mono ?_
      rintro e w8 ⟨rfl, rfl⟩
      rw [HCN.out]
      by_cases hn0 : n = 0
      · have hd0 : decide ((n : Int) = 0) = true := decide_eq_true (by omega)
        go_wp2_with fail
        refine (told_fault 5 E (by decide) (HE.out.turn (T1.out.trans T7.out)) HF7.out).mono ?_
        rintro e w9 ⟨rfl, t9⟩
        have T9 := Lib.hid t9
        clear t9
        go_wp2_with fail
        go_ret
        exact ⟨rfl, (T1.out.trans T7.out).trans T9.out⟩
      · have hd0 : decide ((n : Int) = 0) = false := decide_eq_false (by omega)
        go_wp2_with fail
        · refine (told_fault 5 E (by decide) (HE.out.turn (T1.out.trans T7.out)) HF7.out).mono ?_
          rintro e w9 ⟨rfl, t9⟩
          have T9 := Lib.hid t9
          clear t9
          go_wp2_with fail
          go_ret
          exact ⟨rfl, (T1.out.trans T7.out).trans T9.out⟩
        · exfalso
          rcases HU2.out with h | h
          · rw [List.take_eq_nil_iff] at h
            rcases h with h | h
            · exact hn0 h
            · rw [h] at hs1; simp [BT, ByteArray.size] at hs1
          · apply h
            rw [List.getLast?_eq_getElem?, List.length_take, Nat.min_eq_left (by have := HSZ.out; omega), List.getElem?_take_of_lt (by omega)]
            have hl2 : n - 1 < x.length := by have := HSZ.out; omega
            have h3 : ∀ h : n - 1 < (BT x).size, (BT x)[n - 1]'h = x[n - 1]'hl2 := fun h => by unfold BT; rfl
            have h4 := (‹(_ == (0 : Int)) = false ∧ _›).2
            rw [h3] at h4
            rw [List.getElem?_eq_getElem hl2]
            simp at h4
            congr 1
            apply UInt8.toNat_inj.1
            exact_mod_cast h4
  · have hc1 : decide (c = 0) = false := decide_eq_false hc
    go_wp2_with fail
    go_ret
    exact ⟨rfl, T1.out.trans T5.out⟩
end Go.Proofs.YtjnllclpdllceaaGreatDoor
