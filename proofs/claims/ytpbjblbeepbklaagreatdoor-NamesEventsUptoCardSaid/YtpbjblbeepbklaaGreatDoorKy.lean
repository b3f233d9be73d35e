/- The document's walks: the order of actors. Printed by gen_ya.py. -/
import Derived.Test.YtpbjblbeepbklaaGreatDoorKd
import Derived.Test.YtpbjblbeepbklaaGreatDoorKb
import Derived.Test.YtpbjblbeepbklaaGreatDoorKa
import Derived.Deep.Cut
namespace Go.Proofs.YtpbjblbeepbklaaGreatDoor
set_option linter.unusedSimpArgs false
set_option linter.unusedVariables false
open Go.RowKit

theorem cmp_step {X Y : List Bs} {k : Nat} (h : k < X.length) (h2 : k < Y.length) : cmpL ltV (X.drop k) (Y.drop k) = if X[k]?.getD [] = Y[k]?.getD [] then cmpL ltV (X.drop (k + 1)) (Y.drop (k + 1)) else ltV (X[k]?.getD []) (Y[k]?.getD []) := by
  rw [List.drop_eq_getElem_cons h, List.drop_eq_getElem_cons h2, cmpL]
  simp [h, h2]
theorem cmp_end {X Y : List Bs} {k : Nat} (h : k ≤ X.length) (h2 : k ≤ Y.length) (h3 : ¬ (k < X.length ∧ k < Y.length)) : cmpL ltV (X.drop k) (Y.drop k) = decide (X.length < Y.length) := by
  by_cases h4 : k < X.length
  · have e : Y.drop k = [] := List.drop_eq_nil_of_le (by omega)
    rw [e, List.drop_eq_getElem_cons h4, cmpL, decide_eq_false (by omega)]
  · have e : X.drop k = [] := List.drop_eq_nil_of_le (by omega)
    rw [e]
    by_cases h5 : k < Y.length
    · rw [List.drop_eq_getElem_cons h5, cmpL, decide_eq_true (by omega)]
    · rw [List.drop_eq_nil_of_le (by omega), cmpL, decide_eq_false (by omega)]
theorem numsL_at {L : List Bs} {l : List Nat} (h : numsL L = some l) {k : Nat} (hk : k < L.length) : numL (L[k]?.getD []) = some (valL (L[k]?.getD [])) := by
  obtain ⟨e, hl⟩ := numsL_some.1 h
  have hk2 : k < l.length := by rw [e] at hk; simpa using hk
  have : L[k]?.getD [] = Lib.decDigits l[k] := by rw [e]; simp [hk2]
  rw [this, valL_dec (hl _ (List.getElem_mem _)), numL_some.2 ⟨rfl, hl _ (List.getElem_mem _)⟩]
theorem beq_dec2 (a b : Bs) : ((BT a).toList == (BT b).toList) = decide (a = b) := by
  rw [BT_toList, BT_toList, Bool.eq_iff_iff, beq_iff_eq, decide_eq_true_eq]

set_option maxRecDepth 100000 in
set_option maxHeartbeats 16000000 in
theorem refActors_any {a b : Bs} {x y : List Nat} (ha : a.length ≤ 4000000) (hb : b.length ≤ 4000000) (hx : numsL (spC 46 a) = some x) (hy : numsL (spC 46 b) = some y) (w : World) :
    Calls Tryz.prog 37 #[.string (BT a), .string (BT b)] w fun e w' => e = .returned (.bool (refActors (spC 46 a) (spC 46 b))) ∧ Turn Nn w w' := by
  have HSA := Lib.hid (refSplit_any ha 46 w)
  have HSB := fun w => Lib.hid (refSplit_any hb 46 w)
  have h46 : ((46 : UInt8).toNat : Int) = 46 := rfl
  rw [h46] at HSA HSB
  have hla := spC_length 46 a
  have hlb := spC_length 46 b
  have hna := spC_ne 46 a
  have hnb := spC_ne 46 b
  obtain ⟨X, hX⟩ : ∃ X, spC 46 a = X := ⟨_, rfl⟩
  obtain ⟨Y, hY⟩ : ∃ Y, spC 46 b = Y := ⟨_, rfl⟩
  simp only [hY] at HSB
  rw [hX] at HSA hla hna hx ⊢
  rw [hY] at hlb hnb hy ⊢
  obtain ⟨M, hM⟩ : ∃ M, X.length = M := ⟨_, rfl⟩
  obtain ⟨N, hN⟩ : ∃ N, Y.length = N := ⟨_, rfl⟩
  have HM := Lib.hid hM
  have HN := Lib.hid hN
  have hM4 : M ≤ 4000001 := by omega
  have hN4 : N ≤ 4000001 := by omega
  have HXN := fun k (hk : k < X.length) => Lib.hid (numsL_at hx hk)
  have HYN := fun k (hk : k < Y.length) => Lib.hid (numsL_at hy hk)
  have HNA := Lib.hid hna
  have HNB := Lib.hid hnb
  obtain ⟨R, hR⟩ : ∃ R, refActors X Y = R := ⟨_, rfl⟩
  rw [hR]
  have HR : Hid (cmpL ltV X Y = R) := Lib.hid hR
  obtain ⟨SA, hSA⟩ : ∃ SA, BT a = SA := ⟨_, rfl⟩
  obtain ⟨SB, hSB⟩ : ∃ SB, BT b = SB := ⟨_, rfl⟩
  rw [hSA] at HSA ⊢
  simp only [hSB] at HSB
  rw [hSB]
  clear hla hlb hna hnb hX hY hM hN hx hy h46 hR hSA hSB ha hb
  go_enter Tryz.func37, Tryz.ntmps37
  go_wp2_with fail
  refine HSA.out.mono ?_
  rintro e w1 ⟨v, rfl, hO⟩
  have OA := Lib.hid hO
  clear hO HSA
  go_wp2_with fail
  refine (HSB w1).out.mono ?_
  rintro e w2 ⟨v2, rfl, hO⟩
  have OB := Lib.hid hO
  clear hO HSB
  have T2 : Hid (Turn Nn w w2) := Lib.hid (OA.out.low.trans OB.out.low)
  have hA2 := (OA.out.turn OB.out.low).str
  have hB2 := OB.out.str
  rcases hA2 with ⟨h0, _⟩ | ⟨ba, oa, ca, rfl, hca, hcA⟩
  · exact absurd h0 HNA.out
  rcases hB2 with ⟨h0, _⟩ | ⟨bb, ob, cb, rfl, hcb, hcB⟩
  · exact absurd h0 HNB.out
  rw [HM.out] at hcA hca ⊢
  rw [HN.out] at hcB hcb ⊢
  have CA := Lib.hid hcA
  have CB := Lib.hid hcB
  clear hcA hcB HNA HNB OA OB
  go_wp2_with fail
  go_loopw [7] (fun i wr => ∃ k : Nat, k ≤ M ∧ k ≤ N ∧ i = .int .i64 k ∧ cmpL ltV (X.drop k) (Y.drop k) = R ∧ Turn Nn w2 wr) (fun i _ => M - (intOf i).toNat)
  case atStart => exact ⟨0, by omega, by omega, rfl, HR.out, Turn.refl _ _⟩
  case round =>
    obtain ⟨k, hk, hk2, rfl, hc, ht⟩ := hrel
    have HC := Lib.hid hc
    have TK := Lib.hid ht
    clear hc ht
    by_cases hl1 : k < M
    · by_cases hl2 : k < N
      · have y0 := cell_turn TK.out (CA.out k hl1)
        have y1 := cell_turn TK.out (CB.out k hl2)
        have HST : Hid ((if X[k]?.getD [] = Y[k]?.getD [] then cmpL ltV (X.drop (k + 1)) (Y.drop (k + 1)) else ltV (X[k]?.getD []) (Y[k]?.getD [])) = R) := Lib.hid (by rw [← cmp_step (by rw [HM.out]; exact hl1) (by rw [HN.out]; exact hl2)]; exact HC.out)
        have VX := Lib.hid (value_any (HXN k (by rw [HM.out]; exact hl1)).out)
        have VY := Lib.hid (value_any (HYN k (by rw [HN.out]; exact hl2)).out)
        have hq := beq_dec2 (X[k]?.getD []) (Y[k]?.getD [])
        unfold BT at VX VY hq
        obtain ⟨P, hP⟩ : ∃ P : ByteArray, ⟨(X[k]?.getD []).toArray⟩ = P := ⟨_, rfl⟩
        obtain ⟨Q, hQ⟩ : ∃ Q : ByteArray, ⟨(Y[k]?.getD []).toArray⟩ = Q := ⟨_, rfl⟩
        rw [hP] at y0 VX hq
        rw [hQ] at y1 VY hq
        obtain ⟨d, hd⟩ : ∃ d, decide (X[k]?.getD [] = Y[k]?.getD []) = d := ⟨_, rfl⟩
        rw [hd] at hq
        have HD := Lib.hid hd
        clear hd hP hQ
        cases d with
        | true =>
          have HST2 : Hid (cmpL ltV (X.drop (k + 1)) (Y.drop (k + 1)) = R) := Lib.hid (by rw [← HST.out, if_pos (of_decide_eq_true HD.out)])
          go_upto_region 5 with (fail)
          have hm : (k : Int) < (M : Int) := by omega
          have hn : (k : Int) < (N : Int) := by omega
          go_quiet (fail)
          go_wp2_with fail
          go_roundw
          case rel => exact ⟨k + 1, by omega, by omega, by go_num, HST2.out, TK.out.drewN _⟩
          case measure => simp [intOf]; omega
        | false =>
          have HST2 : Hid (decide ((valL (X[k]?.getD []) : Int) < (valL (Y[k]?.getD []) : Int)) = R) := Lib.hid (by
            rw [← HST.out, if_neg (of_decide_eq_false HD.out)]
            unfold ltV
            exact decide_eq_decide.2 (by omega))
          generalize (valL (X[k]?.getD []) : Int) = vx at VX HST2
          generalize (valL (Y[k]?.getD []) : Int) = vy at VY HST2
          go_upto_region 5 with (fail)
          have hm : (k : Int) < (M : Int) := by omega
          have hn : (k : Int) < (N : Int) := by omega
          go_quiet (fail)
          go_upto_region 6 with (fail)
          refine held_begin (fun u => u.cell? ⟨ba, oa + k, none⟩ = some (.string P) ∧ u.cell? ⟨bb, ob + k, none⟩ = some (.string Q)) (by kernel_rfl) ?_
          generalize hws : World.drew (World.drewN wr _) = ws
          have TS : Hid (Turn Nn wr ws) := Lib.hid (by rw [← hws]; exact ((Turn.refl Nn wr).drewN _).drew)
          clear hws
          have SC : Hid (ws.cell? ⟨ba, oa + k, none⟩ = some (.string P) ∧ ws.cell? ⟨bb, ob + k, none⟩ = some (.string Q)) := Lib.hid ⟨cell_turn TS.out y0, cell_turn TS.out y1⟩
          clear y0 y1
          refine held_take 0 ?_ rfl (by kernel_rfl) (by kernel_rfl) (by kernel_rfl) (fun _ _ _ h => h) (Or.inl ⟨by kernel_rfl, ?_⟩) SC.out ?_
          rotate_left 1
          · intro u hu; obtain ⟨y0, y1⟩ := hu; go_simp; first | done | with_reducible rfl
          try simp only [Act.put, nA, nB, nC, nD, nE, nF]
          refine held_take 1 ?_ rfl (by kernel_rfl) (by kernel_rfl) (by kernel_rfl) (fun _ _ _ h => h) (Or.inl ⟨by kernel_rfl, ?_⟩) SC.out ?_
          rotate_left 1
          · intro u hu; obtain ⟨y0, y1⟩ := hu; go_simp; first | done | with_reducible rfl
          try simp only [Act.put, nA, nB, nC, nD, nE, nF]
          refine held_take 2 ?_ rfl (by kernel_rfl) (by kernel_rfl) (by kernel_rfl) (fun _ _ _ h => h) (Or.inl ⟨by kernel_rfl, ?_⟩) SC.out ?_
          rotate_left 1
          · intro u hu; obtain ⟨y0, y1⟩ := hu; go_simp; first | done | with_reducible rfl
          try simp only [Act.put, nA, nB, nC, nD, nE, nF]
          refine held_take 3 ?_ rfl (by kernel_rfl) (by kernel_rfl) (by kernel_rfl) (fun _ _ _ h => h) (Or.inl ⟨by kernel_rfl, ?_⟩) SC.out ?_
          rotate_left 1
          · intro u hu; obtain ⟨y0, y1⟩ := hu; go_simp; first | done | with_reducible rfl
          try simp only [Act.put, nA, nB, nC, nD, nE, nF]
          refine held_take 5 ?_ rfl (by kernel_rfl) (by kernel_rfl) (by kernel_rfl) (fun _ _ _ h => h) (Or.inl ⟨by kernel_rfl, ?_⟩) SC.out ?_
          rotate_left 1
          · intro u hu; obtain ⟨y0, y1⟩ := hu; go_simp; first | done | with_reducible rfl
          try simp only [Act.put, nA, nB, nC, nD, nE, nF]
          refine held_take 6 ?_ rfl (by kernel_rfl) (by kernel_rfl) (by kernel_rfl) (fun _ _ _ h => h) (Or.inl ⟨by kernel_rfl, ?_⟩) SC.out ?_
          rotate_left 1
          · intro u hu; obtain ⟨y0, y1⟩ := hu; go_simp; first | done | with_reducible rfl
          try simp only [Act.put, nA, nB, nC, nD, nE, nF]
          refine held_take 7 ?_ rfl (by kernel_rfl) (by kernel_rfl) (by kernel_rfl) (fun _ _ _ h => h) (Or.inl ⟨by kernel_rfl, ?_⟩) SC.out ?_
          rotate_left 1
          · intro u hu; obtain ⟨y0, y1⟩ := hu; go_simp; first | done | with_reducible rfl
          try simp only [Act.put, nA, nB, nC, nD, nE, nF]
          refine held_take 8 ?_ rfl (by kernel_rfl) (by kernel_rfl) (by kernel_rfl) (fun _ _ _ h => h) (Or.inl ⟨by kernel_rfl, ?_⟩) SC.out ?_
          rotate_left 1
          · intro u hu; obtain ⟨y0, y1⟩ := hu; go_simp; first | done | with_reducible rfl
          try simp only [Act.put, nA, nB, nC, nD, nE, nF]
          refine held_call 4 (by kernel_rfl) rfl (by kernel_rfl) (by first | rfl | go_simp) (VX.out _) ?_ (fun c u h => by cases h.1) (fun u h => by cases h.1)
          rintro v u ⟨he, rfl⟩
          cases he
          refine ⟨SC.out, ?_⟩
          try simp only [Act.put, nA, nB, nC, nD, nE, nF]
          refine held_call 9 (by kernel_rfl) rfl (by kernel_rfl) (by first | rfl | go_simp) (VY.out _) ?_ (fun c u h => by cases h.1) (fun u h => by cases h.1)
          rintro v u ⟨he, rfl⟩
          cases he
          refine ⟨SC.out, ?_⟩
          try simp only [Act.put, nA, nB, nC, nD, nE, nF]
          refine held_take 10 ?_ rfl (by kernel_rfl) (by kernel_rfl) (by kernel_rfl) (fun _ _ _ h => h) (Or.inl ⟨by kernel_rfl, ?_⟩) SC.out ?_
          rotate_left 1
          · intro u hu; obtain ⟨y0, y1⟩ := hu; go_simp; first | done | with_reducible rfl
          try simp only [Act.put, nA, nB, nC, nD, nE, nF]
          refine held_take 11 ?_ rfl (by kernel_rfl) (by kernel_rfl) (by kernel_rfl) (fun _ _ _ h => h) (Or.inl ⟨by kernel_rfl, ?_⟩) SC.out ?_
          rotate_left 1
          · intro u hu; obtain ⟨y0, y1⟩ := hu; go_simp; first | done | with_reducible rfl
          try simp only [Act.put, nA, nB, nC, nD, nE, nF]
          refine wpAnyH_done (by kernel_rfl) ?_ _
          go_wp2_with fail
          rw [HST2.out]
          go_ret
          exact ⟨rfl, T2.out.trans (TK.out.trans TS.out)⟩
      · have HE : Hid (decide ((M : Int) < (N : Int)) = R) := Lib.hid (by
          rw [← HC.out, cmp_end (by rw [HM.out]; exact hk) (by rw [HN.out]; exact hk2) (by rw [HM.out, HN.out]; omega), HM.out, HN.out]
          exact decide_eq_decide.2 (by omega))
        go_wp2_with fail
        rw [← HE.out]
        go_ret
        exact ⟨by first | rfl | simp, T2.out.trans TK.out⟩
    · have HE : Hid (decide ((M : Int) < (N : Int)) = R) := Lib.hid (by
        rw [← HC.out, cmp_end (by rw [HM.out]; exact hk) (by rw [HN.out]; exact hk2) (by rw [HM.out, HN.out]; omega), HM.out, HN.out]
        exact decide_eq_decide.2 (by omega))
      go_wp2_with fail
      rw [← HE.out]
      go_ret
      exact ⟨by first | rfl | simp, T2.out.trans TK.out⟩
end Go.Proofs.YtpbjblbeepbklaaGreatDoor
