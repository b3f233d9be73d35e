/- The document's walks: the order of actors. Printed by gen_ya.py. The document's walks: the order of names. Printed by gen_yb.py. -/
import Derived.Test.YtpbjblbeepbklaaGreatDoorKd
import Derived.Test.YtpbjblbeepbklaaGreatDoorKb
import Derived.Test.YtpbjblbeepbklaaGreatDoorKa
import Derived.Deep.Cut
import Derived.Test.YtpbjblbeepbklaaGreatDoorKr
namespace Go.Proofs.YtpbjblbeepbklaaGreatDoor
section
set_option linter.unusedSimpArgs false
set_option linter.unusedVariables false
open Go.RowKit

theorem cmp_step {X Y : List Bs} {k : Nat} (h : k < X.length) (h2 : k < Y.length) : cmpL ltV (X.drop k) (Y.drop k) = if X[k]?.getD [] = Y[k]?.getD [] then cmpL ltV (X.drop (k + 1)) (Y.drop (k + 1)) else ltV (X[k]?.getD []) (Y[k]?.getD []) := by
  rw [List.drop_eq_getElem_cons h, List.drop_eq_getElem_cons h2, cmpL]
  simp [h, h2]
theorem cmp_end {X Y : List Bs} {k : Nat} (h : k ≤ X.length) (h2 : k ≤ Y.length) (h3 : ¬ (k < X.length ∧ k < Y.length)) : cmpL ltV (X.drop k) (Y.drop k) = decide (X.length < Y.length) := by
  by_cases h4 : k < X.length
  · have e : Y.drop k = [] := List.drop_eq_nil_of_le (by omega)
    rw [e, List.drop_eq_getElem_cons h4, cmpL, decide_eq_false (by omega)]
  · have e : X.drop k = [] := List.drop_eq_nil_of_le (by omega)
    rw [e]
    by_cases h5 : k < Y.length
    · rw [List.drop_eq_getElem_cons h5, cmpL, decide_eq_true (by omega)]
    · rw [List.drop_eq_nil_of_le (by omega), cmpL, decide_eq_false (by omega)]
theorem numsL_at {L : List Bs} {l : List Nat} (h : numsL L = some l) {k : Nat} (hk : k < L.length) : numL (L[k]?.getD []) = some (valL (L[k]?.getD [])) := by
  obtain ⟨e, hl⟩ := numsL_some.1 h
  have hk2 : k < l.length := by rw [e] at hk; simpa using hk
  have : L[k]?.getD [] = Lib.decDigits l[k] := by rw [e]; simp [hk2]
  rw [this, valL_dec (hl _ (List.getElem_mem _)), numL_some.2 ⟨rfl, hl _ (List.getElem_mem _)⟩]
theorem beq_dec2 (a b : Bs) : ((BT a).toList == (BT b).toList) = decide (a = b) := by
  rw [BT_toList, BT_toList, Bool.eq_iff_iff, beq_iff_eq, decide_eq_true_eq]

set_option maxRecDepth 100000 in
set_option maxHeartbeats 16000000 in
theorem refActors_any {a b : Bs} {x y : List Nat} (ha : a.length ≤ 4000000) (hb : b.length ≤ 4000000) (hx : numsL (spC 46 a) = some x) (hy : numsL (spC 46 b) = some y) (w : World) :
    Calls Tryz.prog 37 #[.string (BT a), .string (BT b)] w fun e w' => e = .returned (.bool (refActors (spC 46 a) (spC 46 b))) ∧ Turn Nn w w' := by
  have HSA := Lib.hid (refSplit_any ha 46 w)
  have HSB := fun w => Lib.hid (refSplit_any hb 46 w)
  have h46 : ((46 : UInt8).toNat : Int) = 46 := rfl
  rw [h46] at HSA HSB
  have hla := spC_length 46 a
  have hlb := spC_length 46 b
  have hna := spC_ne 46 a
  have hnb := spC_ne 46 b
  obtain ⟨X, hX⟩ : ∃ X, spC 46 a = X := ⟨_, rfl⟩
  obtain ⟨Y, hY⟩ : ∃ Y, spC 46 b = Y := ⟨_, rfl⟩
  simp only [hY] at HSB
  rw [hX] at HSA hla hna hx ⊢
  rw [hY] at hlb hnb hy ⊢
  obtain ⟨M, hM⟩ : ∃ M, X.length = M := ⟨_, rfl⟩
  obtain ⟨N, hN⟩ : ∃ N, Y.length = N := ⟨_, rfl⟩
  have HM := Lib.hid hM
  have HN := Lib.hid hN
  have hM4 : M ≤ 4000001 := by omega
  have hN4 : N ≤ 4000001 := by omega
  have HXN := fun k (hk : k < X.length) => Lib.hid (numsL_at hx hk)
  have HYN := fun k (hk : k < Y.length) => Lib.hid (numsL_at hy hk)
  have HNA := Lib.hid hna
  have HNB := Lib.hid hnb
  obtain ⟨R, hR⟩ : ∃ R, refActors X Y = R := ⟨_, rfl⟩
  rw [hR]
  have HR : Hid (cmpL ltV X Y = R) := Lib.hid hR
  obtain ⟨SA, hSA⟩ : ∃ SA, BT a = SA := ⟨_, rfl⟩
  obtain ⟨SB, hSB⟩ : ∃ SB, BT b = SB := ⟨_, rfl⟩
  rw [hSA] at HSA ⊢
  simp only [hSB] at HSB
  rw [hSB]
  clear hla hlb hna hnb hX hY hM hN hx hy h46 hR hSA hSB ha hb
  go_enter Tryz.func37, Tryz.ntmps37
  go_wp2_with fail
  refine HSA.out.mono ?_
  rintro e w1 ⟨v, rfl, hO⟩
  have OA := Lib.hid hO
  clear hO HSA
  go_wp2_with fail
  refine (HSB w1).out.mono ?_
  rintro e w2 ⟨v2, rfl, hO⟩
  have OB := Lib.hid hO
  clear hO HSB
  have T2 : Hid (Turn Nn w w2) := Lib.hid (OA.out.low.trans OB.out.low)
  have hA2 := (OA.out.turn OB.out.low).str
  have hB2 := OB.out.str
  rcases hA2 with ⟨h0, _⟩ | ⟨ba, oa, ca, rfl, hca, hcA⟩
  · exact absurd h0 HNA.out
  rcases hB2 with ⟨h0, _⟩ | ⟨bb, ob, cb, rfl, hcb, hcB⟩
  · exact absurd h0 HNB.out
  rw [HM.out] at hcA hca ⊢
  rw [HN.out] at hcB hcb ⊢
  have CA := Lib.hid hcA
  have CB := Lib.hid hcB
  clear hcA hcB HNA HNB OA OB
  go_wp2_with fail
  go_loopw [7] (fun i wr => ∃ k : Nat, k ≤ M ∧ k ≤ N ∧ i = .int .i64 k ∧ cmpL ltV (X.drop k) (Y.drop k) = R ∧ Turn Nn w2 wr) (fun i _ => M - (intOf i).toNat)
  case atStart => exact ⟨0, by omega, by omega, rfl, HR.out, Turn.refl _ _⟩
  case round =>
    obtain ⟨k, hk, hk2, rfl, hc, ht⟩ := hrel
    have HC := Lib.hid hc
    have TK := Lib.hid ht
    clear hc ht
    by_cases hl1 : k < M
    · by_cases hl2 : k < N
      · have y0 := cell_turn TK.out (CA.out k hl1)
        have y1 := cell_turn TK.out (CB.out k hl2)
        have HST : Hid ((if X[k]?.getD [] = Y[k]?.getD [] then cmpL ltV (X.drop (k + 1)) (Y.drop (k + 1)) else ltV (X[k]?.getD []) (Y[k]?.getD [])) = R) := Lib.hid (by rw [← cmp_step (by rw [HM.out]; exact hl1) (by rw [HN.out]; exact hl2)]; exact HC.out)
        have VX := Lib.hid (value_any (HXN k (by rw [HM.out]; exact hl1)).out)
        have VY := Lib.hid (value_any (HYN k (by rw [HN.out]; exact hl2)).out)
        have hq := beq_dec2 (X[k]?.getD []) (Y[k]?.getD [])
        unfold BT at VX VY hq
        obtain ⟨P, hP⟩ : ∃ P : ByteArray, ⟨(X[k]?.getD []).toArray⟩ = P := ⟨_, rfl⟩
        obtain ⟨Q, hQ⟩ : ∃ Q : ByteArray, ⟨(Y[k]?.getD []).toArray⟩ = Q := ⟨_, rfl⟩
        rw [hP] at y0 VX hq
        rw [hQ] at y1 VY hq
        obtain ⟨d, hd⟩ : ∃ d, decide (X[k]?.getD [] = Y[k]?.getD []) = d := ⟨_, rfl⟩
        rw [hd] at hq
        have HD := Lib.hid hd
        clear hd hP hQ
        cases d with
        | true =>
          have HST2 : Hid (cmpL ltV (X.drop (k + 1)) (Y.drop (k + 1)) = R) := Lib.hid (by rw [← HST.out, if_pos (of_decide_eq_true HD.out)])
          go_upto_region 5 with (fail)
          have hm : (k : Int) < (M : Int) := by omega
          have hn : (k : Int) < (N : Int) := by omega
          go_quiet (fail)
          go_wp2_with fail
          go_roundw
          case rel => exact ⟨k + 1, by omega, by omega, by go_num, HST2.out, TK.out.drewN _⟩
          case measure => simp [intOf]; omega
        | false =>
          have HST2 : Hid (decide ((valL (X[k]?.getD []) : Int) < (valL (Y[k]?.getD []) : Int)) = R) := Lib.hid (by
            rw [← HST.out, if_neg (of_decide_eq_false HD.out)]
            unfold ltV
            exact decide_eq_decide.2 (by omega))
          generalize (valL (X[k]?.getD []) : Int) = vx at VX HST2
          generalize (valL (Y[k]?.getD []) : Int) = vy at VY HST2
          go_upto_region 5 with (fail)
          have hm : (k : Int) < (M : Int) := by omega
          have hn : (k : Int) < (N : Int) := by omega
          go_quiet (fail)
          go_upto_region 6 with (fail)
          refine held_begin (fun u => u.cell? ⟨ba, oa + k, none⟩ = some (.string P) ∧ u.cell? ⟨bb, ob + k, none⟩ = some (.string Q)) (by kernel_rfl) ?_
          generalize hws : World.drew (World.drewN wr _) = ws
          have TS : Hid (Turn Nn wr ws) := Lib.hid (by rw [← hws]; exact ((Turn.refl Nn wr).drewN _).drew)
          clear hws
          have SC : Hid (ws.cell? ⟨ba, oa + k, none⟩ = some (.string P) ∧ ws.cell? ⟨bb, ob + k, none⟩ = some (.string Q)) := Lib.hid ⟨cell_turn TS.out y0, cell_turn TS.out y1⟩
          clear y0 y1
          refine held_take 0 ?_ rfl (by kernel_rfl) (by kernel_rfl) (by kernel_rfl) (fun _ _ _ h => h) (Or.inl ⟨by kernel_rfl, ?_⟩) SC.out ?_
          rotate_left 1
          · intro u hu; obtain ⟨y0, y1⟩ := hu; go_simp; first | done | with_reducible rfl
          try simp only [Act.put, List.getElem_toArray, List.getElem_cons_succ, List.getElem_cons_zero, List.setIfInBounds_toArray, List.set_cons_succ, List.set_cons_zero]
          refine held_take 1 ?_ rfl (by kernel_rfl) (by kernel_rfl) (by kernel_rfl) (fun _ _ _ h => h) (Or.inl ⟨by kernel_rfl, ?_⟩) SC.out ?_
          rotate_left 1
          · intro u hu; obtain ⟨y0, y1⟩ := hu; go_simp; first | done | with_reducible rfl
          try simp only [Act.put, List.getElem_toArray, List.getElem_cons_succ, List.getElem_cons_zero, List.setIfInBounds_toArray, List.set_cons_succ, List.set_cons_zero]
          refine held_take 2 ?_ rfl (by kernel_rfl) (by kernel_rfl) (by kernel_rfl) (fun _ _ _ h => h) (Or.inl ⟨by kernel_rfl, ?_⟩) SC.out ?_
          rotate_left 1
          · intro u hu; obtain ⟨y0, y1⟩ := hu; go_simp; first | done | with_reducible rfl
          try simp only [Act.put, List.getElem_toArray, List.getElem_cons_succ, List.getElem_cons_zero, List.setIfInBounds_toArray, List.set_cons_succ, List.set_cons_zero]
          refine held_take 3 ?_ rfl (by kernel_rfl) (by kernel_rfl) (by kernel_rfl) (fun _ _ _ h => h) (Or.inl ⟨by kernel_rfl, ?_⟩) SC.out ?_
          rotate_left 1
          · intro u hu; obtain ⟨y0, y1⟩ := hu; go_simp; first | done | with_reducible rfl
          try simp only [Act.put, List.getElem_toArray, List.getElem_cons_succ, List.getElem_cons_zero, List.setIfInBounds_toArray, List.set_cons_succ, List.set_cons_zero]
          refine held_take 5 ?_ rfl (by kernel_rfl) (by kernel_rfl) (by kernel_rfl) (fun _ _ _ h => h) (Or.inl ⟨by kernel_rfl, ?_⟩) SC.out ?_
          rotate_left 1
          · intro u hu; obtain ⟨y0, y1⟩ := hu; go_simp; first | done | with_reducible rfl
          try simp only [Act.put, List.getElem_toArray, List.getElem_cons_succ, List.getElem_cons_zero, List.setIfInBounds_toArray, List.set_cons_succ, List.set_cons_zero]
          refine held_take 6 ?_ rfl (by kernel_rfl) (by kernel_rfl) (by kernel_rfl) (fun _ _ _ h => h) (Or.inl ⟨by kernel_rfl, ?_⟩) SC.out ?_
          rotate_left 1
          · intro u hu; obtain ⟨y0, y1⟩ := hu; go_simp; first | done | with_reducible rfl
          try simp only [Act.put, List.getElem_toArray, List.getElem_cons_succ, List.getElem_cons_zero, List.setIfInBounds_toArray, List.set_cons_succ, List.set_cons_zero]
          refine held_take 7 ?_ rfl (by kernel_rfl) (by kernel_rfl) (by kernel_rfl) (fun _ _ _ h => h) (Or.inl ⟨by kernel_rfl, ?_⟩) SC.out ?_
          rotate_left 1
          · intro u hu; obtain ⟨y0, y1⟩ := hu; go_simp; first | done | with_reducible rfl
          try simp only [Act.put, List.getElem_toArray, List.getElem_cons_succ, List.getElem_cons_zero, List.setIfInBounds_toArray, List.set_cons_succ, List.set_cons_zero]
          refine held_take 8 ?_ rfl (by kernel_rfl) (by kernel_rfl) (by kernel_rfl) (fun _ _ _ h => h) (Or.inl ⟨by kernel_rfl, ?_⟩) SC.out ?_
          rotate_left 1
          · intro u hu; obtain ⟨y0, y1⟩ := hu; go_simp; first | done | with_reducible rfl
          try simp only [Act.put, List.getElem_toArray, List.getElem_cons_succ, List.getElem_cons_zero, List.setIfInBounds_toArray, List.set_cons_succ, List.set_cons_zero]
          refine held_call 4 (by kernel_rfl) rfl (by kernel_rfl) (by first | rfl | go_simp) (VX.out _) ?_ (fun c u h => by cases h.1) (fun u h => by cases h.1)
          rintro v u ⟨he, rfl⟩
          cases he
          refine ⟨SC.out, ?_⟩
          try simp only [Act.put, List.getElem_toArray, List.getElem_cons_succ, List.getElem_cons_zero, List.setIfInBounds_toArray, List.set_cons_succ, List.set_cons_zero]
          refine held_call 9 (by kernel_rfl) rfl (by kernel_rfl) (by first | rfl | go_simp) (VY.out _) ?_ (fun c u h => by cases h.1) (fun u h => by cases h.1)
          rintro v u ⟨he, rfl⟩
          cases he
          refine ⟨SC.out, ?_⟩
          try simp only [Act.put, List.getElem_toArray, List.getElem_cons_succ, List.getElem_cons_zero, List.setIfInBounds_toArray, List.set_cons_succ, List.set_cons_zero]
          refine held_take 10 ?_ rfl (by kernel_rfl) (by kernel_rfl) (by kernel_rfl) (fun _ _ _ h => h) (Or.inl ⟨by kernel_rfl, ?_⟩) SC.out ?_
          rotate_left 1
          · intro u hu; obtain ⟨y0, y1⟩ := hu; go_simp; first | done | with_reducible rfl
          try simp only [Act.put, List.getElem_toArray, List.getElem_cons_succ, List.getElem_cons_zero, List.setIfInBounds_toArray, List.set_cons_succ, List.set_cons_zero]
          refine held_take 11 ?_ rfl (by kernel_rfl) (by kernel_rfl) (by kernel_rfl) (fun _ _ _ h => h) (Or.inl ⟨by kernel_rfl, ?_⟩) SC.out ?_
          rotate_left 1
          · intro u hu; obtain ⟨y0, y1⟩ := hu; go_simp; first | done | with_reducible rfl
          try simp only [Act.put, List.getElem_toArray, List.getElem_cons_succ, List.getElem_cons_zero, List.setIfInBounds_toArray, List.set_cons_succ, List.set_cons_zero]
          refine wpAnyH_done (by kernel_rfl) ?_ _
          go_wp2_with fail
          rw [HST2.out]
          go_ret
          exact ⟨rfl, T2.out.trans (TK.out.trans TS.out)⟩
      · have HE : Hid (decide ((M : Int) < (N : Int)) = R) := Lib.hid (by
          rw [← HC.out, cmp_end (by rw [HM.out]; exact hk) (by rw [HN.out]; exact hk2) (by rw [HM.out, HN.out]; omega), HM.out, HN.out]
          exact decide_eq_decide.2 (by omega))
        go_wp2_with fail
        rw [← HE.out]
        go_ret
        exact ⟨by first | rfl | simp, T2.out.trans TK.out⟩
    · have HE : Hid (decide ((M : Int) < (N : Int)) = R) := Lib.hid (by
        rw [← HC.out, cmp_end (by rw [HM.out]; exact hk) (by rw [HN.out]; exact hk2) (by rw [HM.out, HN.out]; omega), HM.out, HN.out]
        exact decide_eq_decide.2 (by omega))
      go_wp2_with fail
      rw [← HE.out]
      go_ret
      exact ⟨by first | rfl | simp, T2.out.trans TK.out⟩
end
section
set_option linter.unusedSimpArgs false
set_option linter.unusedVariables false
open Go.RowKit

theorem gives_same {w : World} {f : FuncId} {args : Array Value} {v : Value} (h : ∀ u, Calls Tryz.prog f args u fun e w' => e = .returned v ∧ w' = u) : Gives w f args v := fun u _ => (h u).mono fun e w' ⟨h1, h2⟩ => ⟨h1, h2 ▸ Turn.refl Nn u⟩

set_option maxRecDepth 100000 in
set_option maxHeartbeats 16000000 in
theorem rl_actors {w : World} {SA SB : ByteArray} {R : Bool} (hA : Gives w 13 #[.string SA] (.bool true)) (hB : Gives w 13 #[.string SB] (.bool true)) (hL : Gives w 37 #[.string SA, .string SB] (.bool R)) : Calls Tryz.prog 19 #[.string SA, .string SB] w fun e w' => e = .returned (.bool R) ∧ Turn Nn w w' := by
  have T0 : Hid (Turn Nn w w) := Lib.hid (Turn.refl Nn w)
  go_enter Tryz.func19, Tryz.ntmps19
  go_wp2_with fail
  refine (hA _ T0.out).mono ?_
  rintro e u ⟨rfl, t⟩
  have T1 := Lib.hid (T0.out.trans t)
  clear t
  go_wp2_with fail
  refine (hB _ T1.out).mono ?_
  rintro e u ⟨rfl, t⟩
  have T2 := Lib.hid (T1.out.trans t)
  clear t
  go_wp2_with fail
  refine (hL _ T2.out).mono ?_
  rintro e u ⟨rfl, t⟩
  have T3 := Lib.hid (T2.out.trans t)
  clear t
  go_wp2_with fail
  go_ret
  exact ⟨rfl, T3.out⟩
set_option maxRecDepth 100000 in
set_option maxHeartbeats 16000000 in
theorem rl_no1 {w : World} {SA SB : ByteArray} (hA : Gives w 13 #[.string SA] (.bool false)) (hCA : Gives w 15 #[.string SA] (.bool false)) : Calls Tryz.prog 19 #[.string SA, .string SB] w fun e w' => e = .returned (.bool false) ∧ Turn Nn w w' := by
  have T0 : Hid (Turn Nn w w) := Lib.hid (Turn.refl Nn w)
  go_enter Tryz.func19, Tryz.ntmps19
  go_wp2_with fail
  refine (hA _ T0.out).mono ?_
  rintro e u ⟨rfl, t⟩
  have T1 := Lib.hid (T0.out.trans t)
  clear t
  go_wp2_with fail
  refine (hCA _ T1.out).mono ?_
  rintro e u ⟨rfl, t⟩
  have T2 := Lib.hid (T1.out.trans t)
  clear t
  go_wp2_with fail
  go_ret
  exact ⟨rfl, T2.out⟩
set_option maxRecDepth 100000 in
set_option maxHeartbeats 16000000 in
theorem rl_no2 {w : World} {SA SB : ByteArray} (hA : Gives w 13 #[.string SA] (.bool false)) (hCA : Gives w 15 #[.string SA] (.bool true)) (hCB : Gives w 15 #[.string SB] (.bool false)) : Calls Tryz.prog 19 #[.string SA, .string SB] w fun e w' => e = .returned (.bool false) ∧ Turn Nn w w' := by
  have T0 : Hid (Turn Nn w w) := Lib.hid (Turn.refl Nn w)
  go_enter Tryz.func19, Tryz.ntmps19
  go_wp2_with fail
  refine (hA _ T0.out).mono ?_
  rintro e u ⟨rfl, t⟩
  have T1 := Lib.hid (T0.out.trans t)
  clear t
  go_wp2_with fail
  refine (hCA _ T1.out).mono ?_
  rintro e u ⟨rfl, t⟩
  have T2 := Lib.hid (T1.out.trans t)
  clear t
  go_wp2_with fail
  refine (hCB _ T2.out).mono ?_
  rintro e u ⟨rfl, t⟩
  have T3 := Lib.hid (T2.out.trans t)
  clear t
  go_wp2_with fail
  go_ret
  exact ⟨rfl, T3.out⟩
set_option maxRecDepth 100000 in
set_option maxHeartbeats 16000000 in
theorem rl_no3 {w : World} {SA SB : ByteArray} (hA : Gives w 13 #[.string SA] (.bool true)) (hB : Gives w 13 #[.string SB] (.bool false)) (hCA : Gives w 15 #[.string SA] (.bool false)) : Calls Tryz.prog 19 #[.string SA, .string SB] w fun e w' => e = .returned (.bool false) ∧ Turn Nn w w' := by
  have T0 : Hid (Turn Nn w w) := Lib.hid (Turn.refl Nn w)
  go_enter Tryz.func19, Tryz.ntmps19
  go_wp2_with fail
  refine (hA _ T0.out).mono ?_
  rintro e u ⟨rfl, t⟩
  have T1 := Lib.hid (T0.out.trans t)
  clear t
  go_wp2_with fail
  refine (hB _ T1.out).mono ?_
  rintro e u ⟨rfl, t⟩
  have T2 := Lib.hid (T1.out.trans t)
  clear t
  go_wp2_with fail
  refine (hCA _ T2.out).mono ?_
  rintro e u ⟨rfl, t⟩
  have T3 := Lib.hid (T2.out.trans t)
  clear t
  go_wp2_with fail
  go_ret
  exact ⟨rfl, T3.out⟩
set_option maxRecDepth 100000 in
set_option maxHeartbeats 16000000 in
theorem rl_boot_true {w : World} {SA SB : ByteArray} (hA : Gives w 13 #[.string SA] (.bool false)) (hCA : Gives w 15 #[.string SA] (.bool true)) (hCB : Gives w 15 #[.string SB] (.bool true)) (hBA : Gives w 34 #[.string SA] (.bool true)) (hBB : Gives w 34 #[.string SB] (.bool false)) : Calls Tryz.prog 19 #[.string SA, .string SB] w fun e w' => e = .returned (.bool true) ∧ Turn Nn w w' := by
  have T0 : Hid (Turn Nn w w) := Lib.hid (Turn.refl Nn w)
  go_enter Tryz.func19, Tryz.ntmps19
  go_wp2_with fail
  refine (hA _ T0.out).mono ?_
  rintro e u ⟨rfl, t⟩
  have T1 := Lib.hid (T0.out.trans t)
  clear t
  go_wp2_with fail
  refine (hCA _ T1.out).mono ?_
  rintro e u ⟨rfl, t⟩
  have T2 := Lib.hid (T1.out.trans t)
  clear t
  go_wp2_with fail
  refine (hCB _ T2.out).mono ?_
  rintro e u ⟨rfl, t⟩
  have T3 := Lib.hid (T2.out.trans t)
  clear t
  go_wp2_with fail
  refine (hBA _ T3.out).mono ?_
  rintro e u ⟨rfl, t⟩
  have T4 := Lib.hid (T3.out.trans t)
  clear t
  go_wp2_with fail
  refine (hBB _ T4.out).mono ?_
  rintro e u ⟨rfl, t⟩
  have T5 := Lib.hid (T4.out.trans t)
  clear t
  go_wp2_with fail
  refine (hBA _ T5.out).mono ?_
  rintro e u ⟨rfl, t⟩
  have T6 := Lib.hid (T5.out.trans t)
  clear t
  go_wp2_with fail
  go_ret
  exact ⟨rfl, T6.out⟩
set_option maxRecDepth 100000 in
set_option maxHeartbeats 16000000 in
theorem rl_boot_false {w : World} {SA SB : ByteArray} (hA : Gives w 13 #[.string SA] (.bool false)) (hCA : Gives w 15 #[.string SA] (.bool true)) (hCB : Gives w 15 #[.string SB] (.bool true)) (hBA : Gives w 34 #[.string SA] (.bool false)) (hBB : Gives w 34 #[.string SB] (.bool true)) : Calls Tryz.prog 19 #[.string SA, .string SB] w fun e w' => e = .returned (.bool false) ∧ Turn Nn w w' := by
  have T0 : Hid (Turn Nn w w) := Lib.hid (Turn.refl Nn w)
  go_enter Tryz.func19, Tryz.ntmps19
  go_wp2_with fail
  refine (hA _ T0.out).mono ?_
  rintro e u ⟨rfl, t⟩
  have T1 := Lib.hid (T0.out.trans t)
  clear t
  go_wp2_with fail
  refine (hCA _ T1.out).mono ?_
  rintro e u ⟨rfl, t⟩
  have T2 := Lib.hid (T1.out.trans t)
  clear t
  go_wp2_with fail
  refine (hCB _ T2.out).mono ?_
  rintro e u ⟨rfl, t⟩
  have T3 := Lib.hid (T2.out.trans t)
  clear t
  go_wp2_with fail
  refine (hBA _ T3.out).mono ?_
  rintro e u ⟨rfl, t⟩
  have T4 := Lib.hid (T3.out.trans t)
  clear t
  go_wp2_with fail
  refine (hBB _ T4.out).mono ?_
  rintro e u ⟨rfl, t⟩
  have T5 := Lib.hid (T4.out.trans t)
  clear t
  go_wp2_with fail
  refine (hBA _ T5.out).mono ?_
  rintro e u ⟨rfl, t⟩
  have T6 := Lib.hid (T5.out.trans t)
  clear t
  go_wp2_with fail
  go_ret
  exact ⟨rfl, T6.out⟩
set_option maxRecDepth 100000 in
set_option maxHeartbeats 16000000 in
theorem rl_boots {w : World} {SA SB PA PB : ByteArray} {x y : Int} (hA : Gives w 13 #[.string SA] (.bool false)) (hCA : Gives w 15 #[.string SA] (.bool true)) (hCB : Gives w 15 #[.string SB] (.bool true)) (hBA : Gives w 34 #[.string SA] (.bool true)) (hBB : Gives w 34 #[.string SB] (.bool true)) (ea : SA.extract 1 SA.size = PA) (eb : SB.extract 1 SB.size = PB) (la : 1 ≤ SA.size) (lb : 1 ≤ SB.size) (la2 : SA.size ≤ 4000000) (lb2 : SB.size ≤ 4000000) (hx : Gives w 38 #[.string PA] (.int .i64 x)) (hy : Gives w 38 #[.string PB] (.int .i64 y)) : Calls Tryz.prog 19 #[.string SA, .string SB] w fun e w' => e = .returned (.bool (decide (x < y))) ∧ Turn Nn w w' := by
  have lai : (1 : Int) ≤ (SA.size : Int) := by omega
  have lbi : (1 : Int) ≤ (SB.size : Int) := by omega
  have T0 : Hid (Turn Nn w w) := Lib.hid (Turn.refl Nn w)
  go_enter Tryz.func19, Tryz.ntmps19
  go_wp2_with fail
  refine (hA _ T0.out).mono ?_
  rintro e u ⟨rfl, t⟩
  have T1 := Lib.hid (T0.out.trans t)
  clear t
  go_wp2_with fail
  refine (hCA _ T1.out).mono ?_
  rintro e u ⟨rfl, t⟩
  have T2 := Lib.hid (T1.out.trans t)
  clear t
  go_wp2_with fail
  refine (hCB _ T2.out).mono ?_
  rintro e u ⟨rfl, t⟩
  have T3 := Lib.hid (T2.out.trans t)
  clear t
  go_wp2_with fail
  refine (hBA _ T3.out).mono ?_
  rintro e u ⟨rfl, t⟩
  have T4 := Lib.hid (T3.out.trans t)
  clear t
  go_wp2_with fail
  refine (hBB _ T4.out).mono ?_
  rintro e u ⟨rfl, t⟩
  have T5 := Lib.hid (T4.out.trans t)
  clear t
  go_wp2_with fail
  refine (hBA _ T5.out).mono ?_
  rintro e u ⟨rfl, t⟩
  have T6 := Lib.hid (T5.out.trans t)
  clear t
  go_upto_region 8 with (fail)
  refine held_begin (fun _ => True) (by kernel_rfl) ?_
  have T7 := Lib.hid (T6.out.drew)
  generalize World.drew _ = ws at T7 ⊢
  refine held_take 0 ?_ rfl (by kernel_rfl) (by kernel_rfl) (by kernel_rfl) (fun _ _ _ h => h) (Or.inl ⟨by kernel_rfl, ?_⟩) trivial ?_
  rotate_left 1
  · intro u hu; go_simp; first | done | with_reducible rfl
  try simp only [Act.put, List.getElem_toArray, List.getElem_cons_succ, List.getElem_cons_zero, List.setIfInBounds_toArray, List.set_cons_succ, List.set_cons_zero]
  refine held_take 1 ?_ rfl (by kernel_rfl) (by kernel_rfl) (by kernel_rfl) (fun _ _ _ h => h) (Or.inl ⟨by kernel_rfl, ?_⟩) trivial ?_
  rotate_left 1
  · intro u hu; go_simp; first | done | with_reducible rfl
  try simp only [Act.put, List.getElem_toArray, List.getElem_cons_succ, List.getElem_cons_zero, List.setIfInBounds_toArray, List.set_cons_succ, List.set_cons_zero]
  refine held_take 3 ?_ rfl (by kernel_rfl) (by kernel_rfl) (by kernel_rfl) (fun _ _ _ h => h) (Or.inl ⟨by kernel_rfl, ?_⟩) trivial ?_
  rotate_left 1
  · intro u hu; go_simp; first | done | with_reducible rfl
  try simp only [Act.put, List.getElem_toArray, List.getElem_cons_succ, List.getElem_cons_zero, List.setIfInBounds_toArray, List.set_cons_succ, List.set_cons_zero]
  refine held_take 4 ?_ rfl (by kernel_rfl) (by kernel_rfl) (by kernel_rfl) (fun _ _ _ h => h) (Or.inl ⟨by kernel_rfl, ?_⟩) trivial ?_
  rotate_left 1
  · intro u hu; go_simp; first | done | with_reducible rfl
  try simp only [Act.put, List.getElem_toArray, List.getElem_cons_succ, List.getElem_cons_zero, List.setIfInBounds_toArray, List.set_cons_succ, List.set_cons_zero]
  refine held_call 2 (by kernel_rfl) rfl (by kernel_rfl) (by first | rfl | go_simp) (hx _ T7.out) ?_ (fun c u h => by cases h.1) (fun u h => by cases h.1)
  rintro v u ⟨he, t⟩
  cases he
  have T8 := Lib.hid (T7.out.trans t)
  clear t
  refine ⟨trivial, ?_⟩
  try simp only [Act.put, List.getElem_toArray, List.getElem_cons_succ, List.getElem_cons_zero, List.setIfInBounds_toArray, List.set_cons_succ, List.set_cons_zero]
  refine held_call 5 (by kernel_rfl) rfl (by kernel_rfl) (by first | rfl | go_simp) (hy _ T8.out) ?_ (fun c u h => by cases h.1) (fun u h => by cases h.1)
  rintro v u ⟨he, t⟩
  cases he
  have T9 := Lib.hid (T8.out.trans t)
  clear t
  refine ⟨trivial, ?_⟩
  try simp only [Act.put, List.getElem_toArray, List.getElem_cons_succ, List.getElem_cons_zero, List.setIfInBounds_toArray, List.set_cons_succ, List.set_cons_zero]
  refine held_take 6 ?_ rfl (by kernel_rfl) (by kernel_rfl) (by kernel_rfl) (fun _ _ _ h => h) (Or.inl ⟨by kernel_rfl, ?_⟩) trivial ?_
  rotate_left 1
  · intro u hu; go_simp; first | done | with_reducible rfl
  try simp only [Act.put, List.getElem_toArray, List.getElem_cons_succ, List.getElem_cons_zero, List.setIfInBounds_toArray, List.set_cons_succ, List.set_cons_zero]
  refine held_take 7 ?_ rfl (by kernel_rfl) (by kernel_rfl) (by kernel_rfl) (fun _ _ _ h => h) (Or.inl ⟨by kernel_rfl, ?_⟩) trivial ?_
  rotate_left 1
  · intro u hu; go_simp; first | done | with_reducible rfl
  try simp only [Act.put, List.getElem_toArray, List.getElem_cons_succ, List.getElem_cons_zero, List.setIfInBounds_toArray, List.set_cons_succ, List.set_cons_zero]
  refine wpAnyH_done (by kernel_rfl) ?_ _
  go_wp2_with fail
  go_ret
  exact ⟨rfl, T9.out⟩
set_option maxRecDepth 100000 in
set_option maxHeartbeats 16000000 in
theorem rl_parents {w : World} {SA SB PA PB : ByteArray} {R : Bool} (hA : Gives w 13 #[.string SA] (.bool false)) (hCA : Gives w 15 #[.string SA] (.bool true)) (hCB : Gives w 15 #[.string SB] (.bool true)) (hBA : Gives w 34 #[.string SA] (.bool false)) (hBB : Gives w 34 #[.string SB] (.bool false)) (hPA : Gives w 17 #[.string SA] (.string PA)) (hPB : Gives w 17 #[.string SB] (.string PB)) (hne : (PA.toList == PB.toList) = false) (hL : Gives w 37 #[.string PA, .string PB] (.bool R)) : Calls Tryz.prog 19 #[.string SA, .string SB] w fun e w' => e = .returned (.bool R) ∧ Turn Nn w w' := by
  have T0 : Hid (Turn Nn w w) := Lib.hid (Turn.refl Nn w)
  go_enter Tryz.func19, Tryz.ntmps19
  go_wp2_with fail
  refine (hA _ T0.out).mono ?_
  rintro e u ⟨rfl, t⟩
  have T1 := Lib.hid (T0.out.trans t)
  clear t
  go_wp2_with fail
  refine (hCA _ T1.out).mono ?_
  rintro e u ⟨rfl, t⟩
  have T2 := Lib.hid (T1.out.trans t)
  clear t
  go_wp2_with fail
  refine (hCB _ T2.out).mono ?_
  rintro e u ⟨rfl, t⟩
  have T3 := Lib.hid (T2.out.trans t)
  clear t
  go_wp2_with fail
  refine (hBA _ T3.out).mono ?_
  rintro e u ⟨rfl, t⟩
  have T4 := Lib.hid (T3.out.trans t)
  clear t
  go_wp2_with fail
  refine (hBB _ T4.out).mono ?_
  rintro e u ⟨rfl, t⟩
  have T5 := Lib.hid (T4.out.trans t)
  clear t
  go_wp2_with fail
  refine (hBA _ T5.out).mono ?_
  rintro e u ⟨rfl, t⟩
  have T6 := Lib.hid (T5.out.trans t)
  clear t
  go_wp2_with fail
  refine (hPA _ T6.out).mono ?_
  rintro e u ⟨rfl, t⟩
  have T7 := Lib.hid (T6.out.trans t)
  clear t
  go_wp2_with fail
  refine (hPB _ T7.out).mono ?_
  rintro e u ⟨rfl, t⟩
  have T8 := Lib.hid (T7.out.trans t)
  clear t
  go_wp2_with fail
  refine (hPA _ T8.out).mono ?_
  rintro e u ⟨rfl, t⟩
  have T9 := Lib.hid (T8.out.trans t)
  clear t
  go_wp2_with fail
  refine (hPB _ T9.out).mono ?_
  rintro e u ⟨rfl, t⟩
  have T10 := Lib.hid (T9.out.trans t)
  clear t
  go_wp2_with fail
  refine (hL _ T10.out).mono ?_
  rintro e u ⟨rfl, t⟩
  have T11 := Lib.hid (T10.out.trans t)
  clear t
  go_wp2_with fail
  go_ret
  exact ⟨rfl, T11.out⟩
set_option maxRecDepth 100000 in
set_option maxHeartbeats 16000000 in
theorem rl_tails {w : World} {SA SB PA PB XA XB : ByteArray} {i j : Nat} {x y : Int} (hA : Gives w 13 #[.string SA] (.bool false)) (hCA : Gives w 15 #[.string SA] (.bool true)) (hCB : Gives w 15 #[.string SB] (.bool true)) (hBA : Gives w 34 #[.string SA] (.bool false)) (hBB : Gives w 34 #[.string SB] (.bool false)) (hPA : Gives w 17 #[.string SA] (.string PA)) (hPB : Gives w 17 #[.string SB] (.string PB)) (hne : (PA.toList == PB.toList) = true) (hI : Gives w 33 #[.string SA, .int .u8 43] (.int .i64 (i : Int))) (hJ : Gives w 33 #[.string SB, .int .u8 43] (.int .i64 (j : Int))) (ea : SA.extract (i + 1) SA.size = XA) (eb : SB.extract (j + 1) SB.size = XB) (la : i + 1 ≤ SA.size) (lb : j + 1 ≤ SB.size) (la2 : SA.size ≤ 4000000) (lb2 : SB.size ≤ 4000000) (hx : Gives w 38 #[.string XA] (.int .i64 x)) (hy : Gives w 38 #[.string XB] (.int .i64 y)) : Calls Tryz.prog 19 #[.string SA, .string SB] w fun e w' => e = .returned (.bool (decide (x < y))) ∧ Turn Nn w w' := by
  have lai : (1 : Int) ≤ (SA.size : Int) := by omega
  have lbi : (1 : Int) ≤ (SB.size : Int) := by omega
  have T0 : Hid (Turn Nn w w) := Lib.hid (Turn.refl Nn w)
  go_enter Tryz.func19, Tryz.ntmps19
  go_wp2_with fail
  refine (hA _ T0.out).mono ?_
  rintro e u ⟨rfl, t⟩
  have T1 := Lib.hid (T0.out.trans t)
  clear t
  go_wp2_with fail
  refine (hCA _ T1.out).mono ?_
  rintro e u ⟨rfl, t⟩
  have T2 := Lib.hid (T1.out.trans t)
  clear t
  go_wp2_with fail
  refine (hCB _ T2.out).mono ?_
  rintro e u ⟨rfl, t⟩
  have T3 := Lib.hid (T2.out.trans t)
  clear t
  go_wp2_with fail
  refine (hBA _ T3.out).mono ?_
  rintro e u ⟨rfl, t⟩
  have T4 := Lib.hid (T3.out.trans t)
  clear t
  go_wp2_with fail
  refine (hBB _ T4.out).mono ?_
  rintro e u ⟨rfl, t⟩
  have T5 := Lib.hid (T4.out.trans t)
  clear t
  go_wp2_with fail
  refine (hBA _ T5.out).mono ?_
  rintro e u ⟨rfl, t⟩
  have T6 := Lib.hid (T5.out.trans t)
  clear t
  go_wp2_with fail
  refine (hPA _ T6.out).mono ?_
  rintro e u ⟨rfl, t⟩
  have T7 := Lib.hid (T6.out.trans t)
  clear t
  go_wp2_with fail
  refine (hPB _ T7.out).mono ?_
  rintro e u ⟨rfl, t⟩
  have T8 := Lib.hid (T7.out.trans t)
  clear t
  go_wp2_with fail
  refine (hI _ T8.out).mono ?_
  rintro e u ⟨rfl, t⟩
  have T9 := Lib.hid (T8.out.trans t)
  clear t
  go_wp2_with fail
  refine (hx _ T9.out).mono ?_
  rintro e u ⟨rfl, t⟩
  have T10 := Lib.hid (T9.out.trans t)
  clear t
  go_wp2_with fail
  refine (hJ _ T10.out).mono ?_
  rintro e u ⟨rfl, t⟩
  have T11 := Lib.hid (T10.out.trans t)
  clear t
  go_wp2_with fail
  refine (hy _ T11.out).mono ?_
  rintro e u ⟨rfl, t⟩
  have T12 := Lib.hid (T11.out.trans t)
  clear t
  go_wp2_with fail
  go_ret
  exact ⟨rfl, T12.out⟩

theorem refLess_any {a b : Bs} (ha : a.length ≤ 4000000) (hb : b.length ≤ 4000000) {w : World} : Calls Tryz.prog 19 #[.string (BT a), .string (BT b)] w fun e w' => e = .returned (.bool (refLess a b)) ∧ Turn Nn w w' := by
  have gA : ∀ {l : Bs} {z : Bool}, l.length ≤ 4000000 → actorL l = z → Gives w 13 #[.string (BT l)] (.bool z) := fun hl hz u _ => hz ▸ refActor_any hl u
  have gC : ∀ {l : Bs} {z : Bool}, l.length ≤ 4000000 → chanL l = z → Gives w 15 #[.string (BT l)] (.bool z) := fun hl hz u _ => hz ▸ refChan_any hl u
  have gB : ∀ {l : Bs} {z : Bool}, l.length ≤ 4000000 → bootB l = z → Gives w 34 #[.string (BT l)] (.bool z) := fun hl hz => hz ▸ gives_same (refBoot_any hl)
  have gP : ∀ {l : Bs}, l.length ≤ 4000000 → Gives w 17 #[.string (BT l)] (.string (BT (parentL l))) := fun hl u _ => refParent_any hl u
  have gV : ∀ {l : Bs} {n : Nat}, numL l = some n → Gives w 38 #[.string (BT l)] (.int .i64 (n : Int)) := fun h => gives_same (value_any h)
  have gL : ∀ {l a r : Bs}, l.length ≤ 4000000 → lastC 43 l = some (a, r) → Gives w 33 #[.string (BT l), .int .u8 43] (.int .i64 (a.length : Int)) := fun hl h => by
    have := gives_same (w := w) (refLast_any hl 43)
    rw [(lastI_some h).1] at this
    exact this
  have sa := BT_size a
  have sb := BT_size b
  unfold refLess
  by_cases h1 : actorL a = true ∧ actorL b = true
  · rw [if_pos h1]
    obtain ⟨x, hx⟩ : ∃ x, partsL a = some x := Option.isSome_iff_exists.1 h1.1
    obtain ⟨y, hy⟩ : ∃ y, partsL b = some y := Option.isSome_iff_exists.1 h1.2
    exact rl_actors (gA ha h1.1) (gA hb h1.2) (fun u _ => refActors_any ha hb hx hy u)
  rw [if_neg h1]
  by_cases h2 : chanL a = false ∨ chanL b = false
  · rw [if_pos h2]
    cases hca : chanL a with
    | false =>
      cases haa : actorL a with
      | false => exact rl_no1 (gA ha haa) (gC ha hca)
      | true =>
        have hab : actorL b = false := by cases h : actorL b with
          | false => rfl
          | true => exact absurd ⟨haa, h⟩ h1
        exact rl_no3 (gA ha haa) (gA hb hab) (gC ha hca)
    | true =>
      have hcb : chanL b = false := by rcases h2 with h | h
                                       · rw [hca] at h; cases h
                                       · exact h
      exact rl_no2 (gA ha (chan_no_actor hca)) (gC ha hca) (gC hb hcb)
  rw [if_neg h2]
  have hca : chanL a = true := by cases h : chanL a with
    | true => rfl
    | false => exact absurd (.inl h) h2
  have hcb : chanL b = true := by cases h : chanL b with
    | true => rfl
    | false => exact absurd (.inr h) h2
  have haa := chan_no_actor hca
  show Calls _ _ _ _ fun e w' => e = .returned (.bool (if bootB a ≠ bootB b then bootB a else if bootB a = true then ltV (a.drop 1) (b.drop 1) else if parentL a ≠ parentL b then refActors (spC 46 (parentL a)) (spC 46 (parentL b)) else ltV (tailL a) (tailL b))) ∧ Turn Nn w w'
  cases hba : bootB a with
  | true =>
    cases hbb : bootB b with
    | false =>
      rw [if_pos (by decide)]
      exact rl_boot_true (gA ha haa) (gC ha hca) (gC hb hcb) (gB ha hba) (gB hb hbb)
    | true =>
      rw [if_neg (by decide), if_pos rfl]
      obtain ⟨m, hm⟩ : ∃ m, bootN a = some m := Option.isSome_iff_exists.1 hba
      obtain ⟨n, hn⟩ : ∃ n, bootN b = some n := Option.isSome_iff_exists.1 hbb
      obtain ⟨ea, lm⟩ := bootN_some.1 hm
      obtain ⟨eb, ln⟩ := bootN_some.1 hn
      have da : a.drop 1 = Lib.decDigits m := by rw [ea]; rfl
      have db : b.drop 1 = Lib.decDigits n := by rw [eb]; rfl
      have pa : 1 ≤ a.length := by rw [ea]; simp
      have pb : 1 ≤ b.length := by rw [eb]; simp
      have hv : ltV (a.drop 1) (b.drop 1) = decide ((m : Int) < (n : Int)) := by
        unfold ltV
        rw [da, db, valL_dec lm, valL_dec ln]
        exact decide_eq_decide.2 (by omega)
      rw [hv]
      exact rl_boots (gA ha haa) (gC ha hca) (gC hb hcb) (gB ha hba) (gB hb hbb) (BT_ext_drop pa) (BT_ext_drop pb) (by omega) (by omega) (by omega) (by omega) (gV (by rw [da]; exact numL_some.2 ⟨rfl, lm⟩)) (gV (by rw [db]; exact numL_some.2 ⟨rfl, ln⟩))
  | false =>
    cases hbb : bootB b with
    | true =>
      rw [if_pos (by decide)]
      exact rl_boot_false (gA ha haa) (gC ha hca) (gC hb hcb) (gB ha hba) (gB hb hbb)
    | false =>
      rw [if_neg (by decide), if_neg (by decide)]
      have na : bootN a = none := by unfold bootB at hba; simpa using hba
      have nb : bootN b = none := by unfold bootB at hbb; simpa using hbb
      rcases keyL_some hca with ⟨k, hk⟩ | ⟨_, A, m, hm⟩
      · rw [na] at hk; cases hk
      rcases keyL_some hcb with ⟨k, hk⟩ | ⟨_, B, n, hn⟩
      · rw [nb] at hk; cases hk
      obtain ⟨_, _, pa, ta⟩ := made_chan hm
      obtain ⟨_, _, pb, tb⟩ := made_chan hn
      obtain ⟨ea, hA, hAl, lm⟩ := madeN_some.1 hm
      obtain ⟨eb, hB, hBl, ln⟩ := madeN_some.1 hn
      have la : (parentL a).length + 1 ≤ a.length := by rw [pa]; rw [ea]; simp
      have lb : (parentL b).length + 1 ≤ b.length := by rw [pb]; rw [eb]; simp
      by_cases hp : parentL a = parentL b
      · rw [if_neg (by simp [hp])]
        have ca : lastC 43 a = some (textA A, Lib.decDigits m) := lastC_some.2 ⟨ea, dec_no (by decide)⟩
        have cb : lastC 43 b = some (textA B, Lib.decDigits n) := lastC_some.2 ⟨eb, dec_no (by decide)⟩
        have hv : ltV (tailL a) (tailL b) = decide ((m : Int) < (n : Int)) := by
          unfold ltV
          rw [ta, tb, valL_dec lm, valL_dec ln]
          exact decide_eq_decide.2 (by omega)
        rw [hv]
        rw [pa] at la
        rw [pb] at lb
        exact rl_tails (gA ha haa) (gC ha hca) (gC hb hcb) (gB ha hba) (gB hb hbb) (gP ha) (gP hb) (by rw [beq_dec2]; exact decide_eq_true hp) (gL ha ca) (gL hb cb) (XA := BT (Lib.decDigits m)) (XB := BT (Lib.decDigits n)) (by rw [ea]; exact BT_cat_drop _ _ _) (by rw [eb]; exact BT_cat_drop _ _ _) (by omega) (by omega) (by omega) (by omega) (gV (numL_some.2 ⟨rfl, lm⟩)) (gV (numL_some.2 ⟨rfl, ln⟩))
      · rw [if_pos hp]
        have xa : numsL (spC 46 (parentL a)) = some A := by rw [pa]; exact parts_textA hA hAl
        have xb : numsL (spC 46 (parentL b)) = some B := by rw [pb]; exact parts_textA hB hBl
        exact rl_parents (gA ha haa) (gC ha hca) (gC hb hcb) (gB ha hba) (gB hb hbb) (gP ha) (gP hb) (by rw [beq_dec2]; exact decide_eq_false hp) (fun u _ => refActors_any (by omega) (by omega) xa xb u)
end
end Go.Proofs.YtpbjblbeepbklaaGreatDoor
