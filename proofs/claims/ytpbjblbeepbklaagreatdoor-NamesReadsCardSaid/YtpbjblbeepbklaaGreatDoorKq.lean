/- The program's walks: digits. Printed by gen_xk.py (out of Script's Ud). The program's walks: law.name, kind 0. The program's walks: law.name, kind 1. The program's walks: law.name, kind 1 at one byte. The program's walks: law.name of nothing. The program's walks: law.name of an empty slice. The program's walks: law.name at kinds 0 and 1, whatever slice. -/
import Derived.Test.YtpbjblbeepbklaaGreatDoorKp
import Derived.Test.YtpbjblbeepbklaaGreatDoorKa
import Derived.Laws.BytesArg
namespace Go.Proofs.YtpbjblbeepbklaaGreatDoor
set_option linter.unusedSimpArgs false
set_option linter.unusedVariables false
section
open Go.RowKit Go.Shelf Go.Lib

theorem conv_one {z : Int} {W : World} {b : Nat} (h : W.heap[b]? = some (.cells #[.int .u8 z] 5)) : (convert 22 9 (.slice (some ⟨b, 0, none⟩) 1 1)).run Tryz.prog W = .ok (.string ⟨#[UInt8.ofNat z.toNat]⟩) W := by
  have := run_convert_bytes_arg (P := Tryz.prog) W 22 5 Tryz.underlying22 Tryz.underlying5 b 0 1 1 [z] rfl (fun i hi => by
    obtain rfl : i = 0 := by omega
    exact cell_blk h) 9 Tryz.underlying9
  rw [this]; rfl
theorem byteOf (n : Nat) : UInt8.ofNat (48 + (n : Int)).toNat = UInt8.ofNat (48 + n) := congrArg UInt8.ofNat (by omega)
set_option maxRecDepth 100000 in
theorem digits_small {n : Nat} (h : n < 10) (w : World) : Calls Tryz.prog 26 #[.int .u8 n] w fun e w' => e = .returned (.string (BT (Lib.decDigits n))) ∧ Turn Nn w w' := by
  have hd : decide ((n : Int) < 10) = true := decide_eq_true (by omega)
  obtain ⟨b1, t1⟩ := alloc1 (w := w) (a := .cells #[.int .u8 (48 + (n : Int))] 5) rfl
  have hc := conv_one b1
  obtain ⟨D, hD⟩ : ∃ D : ByteArray, D = ⟨#[UInt8.ofNat (48 + n)]⟩ := ⟨_, rfl⟩
  rw [byteOf, ← hD] at hc
  have z3 : IntKind.u8.wrap (48 + (n : Int)) = 48 + n := IntWalk.u8_in _ (by omega)
  have HD := Lib.hid hD
  clear hD
  go_enter Tryz.func26, Tryz.ntmps26
  go_wp2_with fail
  go_ret
  exact ⟨by rw [decDigits_small h, HD.out]; rfl, t1⟩
theorem decDigits_short (n : Nat) : (Lib.decDigits n).length ≤ n + 1 := by
  induction n using Nat.strongRecOn with
  | _ n ih =>
    by_cases h : n < 10
    · rw [decDigits_small h]; simp
    · rw [decDigits_big h]
      have := ih (n / 10) (by omega)
      simp
      omega
set_option maxRecDepth 100000 in
set_option maxHeartbeats 4000000 in
theorem digits_big {n : Nat} (h : ¬ n < 10) (hn : n < 256) (ih : ∀ m, m < n → m < 256 → ∀ w, Calls Tryz.prog 26 #[.int .u8 (m : Int)] w fun e w' => e = .returned (.string (BT (Lib.decDigits m))) ∧ Turn Nn w w') (w : World) :
    Calls Tryz.prog 26 #[.int .u8 n] w fun e w' => e = .returned (.string (BT (Lib.decDigits n))) ∧ Turn Nn w w' := by
  have hd : decide ((n : Int) < 10) = false := decide_eq_false (by omega)
  have hq : (n : Int).tdiv 10 = ((n / 10 : Nat) : Int) := by rw [Int.tdiv_eq_ediv_of_nonneg (by omega)]; omega
  have hr : (n : Int).tmod 10 = ((n % 10 : Nat) : Int) := by rw [Int.tmod_eq_emod_of_nonneg (by omega)]; omega
  have hr9 : n % 10 < 10 := by omega
  have hj : BT (Lib.decDigits (n / 10)) ++ (⟨#[UInt8.ofNat (48 + n % 10)]⟩ : ByteArray) = BT (Lib.decDigits n) := by
    rw [decDigits_big h]; unfold BT; apply ByteArray.ext; simp
  generalize hm : n % 10 = m at hr hr9 hj
  generalize hk : n / 10 = q at hq hj
  have hql : q < n := by omega
  have z1 : IntKind.u8.wrap (q : Int) = q := IntWalk.u8_in _ (by omega)
  have z2 : IntKind.u8.wrap (m : Int) = m := IntWalk.u8_in _ (by omega)
  have z3 : IntKind.u8.wrap (48 + (m : Int)) = 48 + m := IntWalk.u8_in _ (by omega)
  obtain ⟨D, hD⟩ : ∃ D : ByteArray, D = ⟨#[UInt8.ofNat (48 + m)]⟩ := ⟨_, rfl⟩
  rw [← hD] at hj
  have hs : ∀ W : World, (Op.stringOp .add (BT (Lib.decDigits q)) D).run Tryz.prog W = .ok (.string (BT (Lib.decDigits n))) W := fun W => by
    have h1 := decDigits_short q
    rw [run_string_add_sum W _ _ (by rw [hD]; unfold BT; simp [ByteArray.size]; omega), hj]
  have HS := Lib.hid hs
  have HD := Lib.hid hD
  have IH := Lib.hid (ih q hql (by omega))
  clear hm hk hj hs hD ih
  go_enter Tryz.func26, Tryz.ntmps26
  go_upto_region 3 with (fail)
  refine held_begin (fun _ => True) (by kernel_rfl) ?_
  generalize hwd : World.drew w = wd
  have TD : Hid (Turn Nn w wd) := Lib.hid (by rw [← hwd]; exact (Turn.refl Nn w).drew)
  clear hwd
  refine held_take 0 ?_ rfl (by kernel_rfl) (by kernel_rfl) (by kernel_rfl) (fun _ _ _ h => h) (Or.inl ⟨by kernel_rfl, ?_⟩) trivial ?_
  rotate_left 1
  · intro u hu; clear hu; go_simp; first | done | with_reducible rfl
  try simp only [Act.put, nA, nB, nC, nD, nE, nF]
  refine held_take 1 ?_ rfl (by kernel_rfl) (by kernel_rfl) (by kernel_rfl) (fun _ _ _ h => h) (Or.inl ⟨by kernel_rfl, ?_⟩) trivial ?_
  rotate_left 1
  · intro u hu; clear hu; go_simp; first | done | with_reducible rfl
  try simp only [Act.put, nA, nB, nC, nD, nE, nF]
  refine held_take 3 ?_ rfl (by kernel_rfl) (by kernel_rfl) (by kernel_rfl) (fun _ _ _ h => h) (Or.inl ⟨by kernel_rfl, ?_⟩) trivial ?_
  rotate_left 1
  · intro u hu; clear hu; go_simp; first | done | with_reducible rfl
  try simp only [Act.put, nA, nB, nC, nD, nE, nF]
  refine held_take 4 ?_ rfl (by kernel_rfl) (by kernel_rfl) (by kernel_rfl) (fun _ _ _ h => h) (Or.inl ⟨by kernel_rfl, ?_⟩) trivial ?_
  rotate_left 1
  · intro u hu; clear hu; go_simp; first | done | with_reducible rfl
  try simp only [Act.put, nA, nB, nC, nD, nE, nF]
  refine held_take 5 ?_ rfl (by kernel_rfl) (by kernel_rfl) (by kernel_rfl) (fun _ _ _ h => h) (Or.inl ⟨by kernel_rfl, ?_⟩) trivial ?_
  rotate_left 1
  · intro u hu; clear hu; go_simp; first | done | with_reducible rfl
  try simp only [Act.put, nA, nB, nC, nD, nE, nF]
  refine held_pair 2 6 (by kernel_rfl) rfl rfl (by kernel_rfl) (by kernel_rfl) (fun K hK => ?_) (fun K hK => ?_)
  · go_simp
    refine (IH.out _).mono ?_
    rintro e w1 ⟨rfl, t⟩
    refine hK _ _ trivial ?_
    clear hK K
    have T := Lib.hid t
    clear t
    try simp only [Act.put, nA, nB, nC, nD, nE, nF]
    refine held_one 6 (by kernel_rfl) rfl (by kernel_rfl) (fun K hK => ?_)
    obtain ⟨b1, t1⟩ := alloc1 (w := w1) (a := .cells #[.int .u8 (48 + (m : Int))] 5) rfl
    have B := Lib.hid b1
    have TB := Lib.hid t1
    clear b1 t1
    go_simp
    refine hK _ _ trivial ?_
    clear hK K
    try simp only [Act.put, nA, nB, nC, nD, nE, nF]
    refine held_one 7 (by kernel_rfl) rfl (by kernel_rfl) (fun K hK => ?_)
    have hc := conv_one B.out
    rw [byteOf, ← HD.out] at hc
    go_simp
    refine hK _ _ trivial ?_
    clear hK K hc
    try simp only [Act.put, nA, nB, nC, nD, nE, nF]
    refine held_one 8 (by kernel_rfl) rfl (by kernel_rfl) (fun K hK => ?_)
    have hs := HS.out
    go_simp
    refine hK _ _ trivial ?_
    clear hK K hs
    try simp only [Act.put, nA, nB, nC, nD, nE, nF]
    refine held_one 9 (by kernel_rfl) rfl (by kernel_rfl) (fun K hK => ?_)
    go_simp
    refine hK _ _ trivial ?_
    clear hK K
    try simp only [Act.put, nA, nB, nC, nD, nE, nF]
    refine wpAnyH_done (by kernel_rfl) ?_ _
    go_wp2_with fail
    go_ret
    exact ⟨rfl, (TD.out.trans T.out).trans TB.out⟩
  · obtain ⟨b1, t1⟩ := alloc1 (w := wd) (a := .cells #[.int .u8 (48 + (m : Int))] 5) rfl
    have B := Lib.hid b1
    have TB := Lib.hid t1
    clear b1 t1
    go_simp
    refine hK _ _ trivial ?_
    clear hK K
    try simp only [Act.put, nA, nB, nC, nD, nE, nF]
    refine held_pair 2 7 (by kernel_rfl) rfl rfl (by kernel_rfl) (by kernel_rfl) (fun K hK => ?_) (fun K hK => ?_)
    · go_simp
      refine (IH.out _).mono ?_
      rintro e w1 ⟨rfl, t⟩
      refine hK _ _ trivial ?_
      clear hK K
      have T := Lib.hid t
      clear t
      try simp only [Act.put, nA, nB, nC, nD, nE, nF]
      refine held_one 7 (by kernel_rfl) rfl (by kernel_rfl) (fun K hK => ?_)
      have hc := conv_one ((T.out.block _ (heap_lt B.out) (fun h => h)).trans B.out)
      rw [byteOf, ← HD.out] at hc
      go_simp
      refine hK _ _ trivial ?_
      clear hK K hc
      try simp only [Act.put, nA, nB, nC, nD, nE, nF]
      refine held_one 8 (by kernel_rfl) rfl (by kernel_rfl) (fun K hK => ?_)
      have hs := HS.out
      go_simp
      refine hK _ _ trivial ?_
      clear hK K hs
      try simp only [Act.put, nA, nB, nC, nD, nE, nF]
      refine held_one 9 (by kernel_rfl) rfl (by kernel_rfl) (fun K hK => ?_)
      go_simp
      refine hK _ _ trivial ?_
      clear hK K
      try simp only [Act.put, nA, nB, nC, nD, nE, nF]
      refine wpAnyH_done (by kernel_rfl) ?_ _
      go_wp2_with fail
      go_ret
      exact ⟨rfl, (TD.out.trans TB.out).trans T.out⟩
    · have hc := conv_one B.out
      rw [byteOf, ← HD.out] at hc
      go_simp
      refine hK _ _ trivial ?_
      clear hK K hc
      try simp only [Act.put, nA, nB, nC, nD, nE, nF]
      refine held_one 2 (by kernel_rfl) rfl (by kernel_rfl) (fun K hK => ?_)
      go_simp
      refine (IH.out _).mono ?_
      rintro e w1 ⟨rfl, t⟩
      refine hK _ _ trivial ?_
      clear hK K
      have T := Lib.hid t
      clear t
      try simp only [Act.put, nA, nB, nC, nD, nE, nF]
      refine held_one 8 (by kernel_rfl) rfl (by kernel_rfl) (fun K hK => ?_)
      have hs := HS.out
      go_simp
      refine hK _ _ trivial ?_
      clear hK K hs
      try simp only [Act.put, nA, nB, nC, nD, nE, nF]
      refine held_one 9 (by kernel_rfl) rfl (by kernel_rfl) (fun K hK => ?_)
      go_simp
      refine hK _ _ trivial ?_
      clear hK K
      try simp only [Act.put, nA, nB, nC, nD, nE, nF]
      refine wpAnyH_done (by kernel_rfl) ?_ _
      go_wp2_with fail
      go_ret
      exact ⟨rfl, (TD.out.trans TB.out).trans T.out⟩
theorem digits_any (n : Nat) : n < 256 → ∀ w, Calls Tryz.prog 26 #[.int .u8 (n : Int)] w fun e w' => e = .returned (.string (BT (Lib.decDigits n))) ∧ Turn Nn w w' := by
  induction n using Nat.strongRecOn with
  | _ n ih =>
    intro hn w
    by_cases h : n < 10
    · exact digits_small h w
    · exact digits_big h hn (fun m hm h2 w => ih m hm h2 w) w
end
section
open Go.RowKit Go.Shelf Go.Lib

theorem joinC_snoc (c : UInt8) : ∀ (L : List Bs) (x : Bs), L ≠ [] → joinC c (L ++ [x]) = joinC c L ++ c :: x
  | [], x, h => absurd rfl h
  | [y], x, _ => by simp [joinC]
  | y :: z :: r, x, _ => by
    have ih := joinC_snoc c (z :: r) x (by simp)
    rw [List.cons_append, List.cons_append, joinC]
    rw [List.cons_append] at ih
    rw [ih, joinC]
    simp
theorem fixL_take {l : List Nat} (h : l ≠ []) : fixL l = l.take 20 := by
  unfold fixL
  rw [if_neg]
  intro e
  cases l with
  | nil => exact h rfl
  | cons x r => simp at e
theorem textA_take {F : List Nat} {k : Nat} (hk : 1 ≤ k) (h : k < F.length) : textA (F.take (k + 1)) = textA (F.take k) ++ 46 :: decDigits (F[k]?.getD 0) := by
  unfold textA
  rw [List.take_add_one, List.getElem?_eq_getElem h]
  simp only [Option.toList_some, List.map_append, List.map_cons, List.map_nil, Option.getD_some]
  rw [joinC_snoc]
  intro e
  have e2 := congrArg List.length e
  rw [List.length_map, List.length_take, Nat.min_eq_left (Nat.le_of_lt h)] at e2
  simp at e2
  omega
set_option maxRecDepth 100000 in
set_option maxHeartbeats 8000000 in
theorem name0_any {l : List Nat} {b o cap : Nat} {w : World} (hne : l ≠ []) (h256 : ∀ n ∈ l, n < 256) (hn : l.length ≤ 9223372036854775807) (hcap : l.length ≤ cap) (hc : ∀ i, i < l.length → w.cell? ⟨b, o + i, none⟩ = some (.int .u8 ((l[i]?.getD 0 : Nat) : Int))) :
    Calls Tryz.prog 9 #[.slice (some ⟨b, o, none⟩) l.length cap, .int .i64 0] w fun e w' => e = .returned (.string (BT (name0 l))) ∧ Turn Nn w w' := by
  obtain ⟨F, hF⟩ : ∃ F, l.take 20 = F := ⟨_, rfl⟩
  obtain ⟨m, hm⟩ : ∃ m, F.length = m := ⟨_, rfl⟩
  have hlen : m = min l.length 20 := by rw [← hm, ← hF, List.length_take, Nat.min_comm]
  have hpos : 0 < l.length := List.length_pos_iff.2 hne
  have hcell : ∀ i, i < m → w.cell? ⟨b, o + i, none⟩ = some (.int .u8 ((F[i]?.getD 0 : Nat) : Int)) := by
    intro i hi
    rw [hc i (by omega), ← hF, List.getElem?_take_of_lt (by omega)]
  have hF256 : ∀ i, i < m → F[i]?.getD 0 < 256 := by
    intro i hi
    rw [List.getElem?_eq_getElem (by omega), Option.getD_some]
    have hmem : ∀ x ∈ F, x ∈ l := fun x hx => by rw [← hF] at hx; exact List.mem_of_mem_take hx
    exact h256 _ (hmem _ (List.getElem_mem _))
  have hname : name0 l = textA F := by unfold name0; rw [fixL_take hne, hF]
  obtain ⟨N, hN⟩ : ∃ N, l.length = N := ⟨_, rfl⟩
  have hmin : min (N : Int) 20 = (m : Int) := by rw [hlen, hN]; omega
  rw [hname, hN]
  rw [hN] at hpos hn hcap hlen
  have HC := Lib.hid hcell
  have H256 := Lib.hid hF256
  have HM := Lib.hid hm
  have x0 := hcell 0 (by omega)
  rw [Nat.add_zero] at x0
  have HD0 := Lib.hid (digits_any _ (hF256 0 (by omega)))
  have hm1 : 1 ≤ m := by omega
  have hm20 : m ≤ 20 := by omega
  have hmc : m ≤ cap := by omega
  have HT1 : Hid (textA (F.take 1) = decDigits (F[0]?.getD 0)) := Lib.hid (by
    cases F with
    | nil => simp at hm; omega
    | cons x r => simp [textA, joinC])
  have HLT := fun k (h1 : 1 ≤ k) (h : k < m) => Lib.hid (textA_take (F := F) h1 (by rw [hm]; exact h))
  have HTL : Hid (F.take m = F) := Lib.hid (by rw [← hm, List.take_length])
  clear hlen hpos hcell hF256 hname hc h256 hne hF hm hcap hn hN
  go_enter Tryz.func9, Tryz.ntmps9
  go_wp2_with fail
  refine (HD0.out _).mono ?_
  rintro e w1 ⟨rfl, t1⟩
  have T1 := Lib.hid t1
  clear t1 x0
  go_wp2_with fail
  rw [← HT1.out]
  go_loopw [5, 6] (fun s i wr => ∃ k : Nat, 1 ≤ k ∧ k ≤ m ∧ i = .int .i64 k ∧ s = .string (BT (textA (F.take k))) ∧ Turn Nn w wr) (fun _ i _ => m - (intOf i).toNat)
  case atStart => exact ⟨1, by omega, hm1, rfl, rfl, T1.out⟩
  case round =>
    obtain ⟨k, hk1, hk, rfl, rfl, ht⟩ := hrel
    have HT := Lib.hid ht
    clear ht
    by_cases hlt : k < m
    · have y0 := cell_turn HT.out (HC.out k hlt)
      have HDK := Lib.hid (digits_any _ (H256.out k hlt))
      have HS := HLT k hk1 hlt
      have hlen := textA_len (l := F.take k) (fun x hx => by
        obtain ⟨j, hj, hjx⟩ := List.mem_iff_getElem.1 hx
        have hj2 : j < F.length := by rw [List.length_take] at hj; omega
        have h3 := H256.out j (by rw [← HM.out]; exact hj2)
        rw [List.getElem?_eq_getElem hj2] at h3
        rw [← hjx, List.getElem_take]
        exact h3)
      have hdl := decDigits_len (H256.out k hlt)
      have htl : (F.take k).length ≤ 20 := by rw [List.length_take]; omega
      have hcat1 : ∀ W, (Op.stringOp .add (BT (textA (F.take k))) ⟨#[46]⟩).run Tryz.prog W = .ok (.string (BT (textA (F.take k) ++ [46]))) W := fun W => cat_run (b := [46]) (by simp; omega) W
      have hcat2 : ∀ W, (Op.stringOp .add (BT (textA (F.take k) ++ [46])) (BT (decDigits (F[k]?.getD 0)))).run Tryz.prog W = .ok (.string (BT (textA (F.take (k + 1))))) W := fun W => by
        rw [cat_run (by simp; omega) W, HS.out]
        simp
      clear hlen hdl htl HS
      go_wp2_with fail
      refine (HDK.out _).mono ?_
      rintro e w2 ⟨rfl, t2⟩
      have T2 := Lib.hid (HT.out.trans t2)
      clear t2
      go_wp2_with fail
      go_roundw
      case rel => exact ⟨k + 1, by omega, by omega, by go_num, rfl, T2.out⟩
      case measure => simp [intOf]; omega
    · obtain rfl : k = m := by omega
      rw [HTL.out]
      go_wp2_with fail
      go_ret
      exact ⟨rfl, HT.out⟩
end
section
open Go.RowKit Go.Shelf Go.Lib

set_option maxRecDepth 100000 in
set_option maxHeartbeats 8000000 in
theorem name1_any {l : List Nat} {b o cap : Nat} {w : World} (h2l : 2 ≤ l.length) (h256 : ∀ n ∈ l, n < 256) (hn : l.length ≤ 9223372036854775807) (hcap : l.length ≤ cap) (hc : ∀ i, i < l.length → w.cell? ⟨b, o + i, none⟩ = some (.int .u8 ((l[i]?.getD 0 : Nat) : Int))) :
    Calls Tryz.prog 9 #[.slice (some ⟨b, o, none⟩) l.length cap, .int .i64 1] w fun e w' => e = .returned (.string (BT (name1 l))) ∧ Turn Nn w w' := by
  have hne : l ≠ [] := fun h => by rw [h] at h2l; simp at h2l
  obtain ⟨F, hF⟩ : ∃ F, l.take 20 = F := ⟨_, rfl⟩
  obtain ⟨m, hm⟩ : ∃ m, F.length = m := ⟨_, rfl⟩
  have hlen : m = min l.length 20 := by rw [← hm, ← hF, List.length_take, Nat.min_comm]
  have hpos : 0 < l.length := List.length_pos_iff.2 hne
  have hcell : ∀ i, i < m → w.cell? ⟨b, o + i, none⟩ = some (.int .u8 ((F[i]?.getD 0 : Nat) : Int)) := by
    intro i hi
    rw [hc i (by omega), ← hF, List.getElem?_take_of_lt (by omega)]
  have hF256 : ∀ i, i < m → F[i]?.getD 0 < 256 := by
    intro i hi
    rw [List.getElem?_eq_getElem (by omega), Option.getD_some]
    have hmem : ∀ x ∈ F, x ∈ l := fun x hx => by rw [← hF] at hx; exact List.mem_of_mem_take hx
    exact h256 _ (hmem _ (List.getElem_mem _))
  have hname : name1 l = textA (F.take (m - 1)) ++ 43 :: decDigits (F[m - 1]?.getD 0) := by
    unfold name1
    rw [fixL_take hne, hF]
    have hF2 : 2 ≤ F.length := by omega
    rw [← hm]
    rcases F with _ | ⟨x, _ | ⟨y, r⟩⟩
    · simp at hF2
    · simp at hF2
    · simp only
      rw [List.dropLast_eq_take, List.getLast?_eq_getElem?]
  obtain ⟨N, hN⟩ : ∃ N, l.length = N := ⟨_, rfl⟩
  have hmin : min (N : Int) 20 = (m : Int) := by rw [hlen, hN]; omega
  obtain ⟨NM, hNM⟩ : ∃ NM, name1 l = NM := ⟨_, rfl⟩
  rw [hNM] at hname ⊢
  have HNM := Lib.hid hname
  rw [hN]
  rw [hN] at hpos hn hcap hlen h2l
  have hm2 : 2 ≤ m := by omega
  have HC := Lib.hid hcell
  have H256 := Lib.hid hF256
  have HM := Lib.hid hm
  have x0 := hcell 0 (by omega)
  rw [Nat.add_zero] at x0
  have HD0 := Lib.hid (digits_any _ (hF256 0 (by omega)))
  have hm1 : 1 ≤ m := by omega
  have hm20 : m ≤ 20 := by omega
  have hmc : m ≤ cap := by omega
  have HT1 : Hid (textA (F.take 1) = decDigits (F[0]?.getD 0)) := Lib.hid (by
    cases F with
    | nil => simp at hm; omega
    | cons x r => simp [textA, joinC])
  have HLT := fun k (h1 : 1 ≤ k) (h : k < m) => Lib.hid (textA_take (F := F) h1 (by rw [hm]; exact h))
  have HTL : Hid (F.take m = F) := Lib.hid (by rw [← hm, List.take_length])
  clear hNM h2l hlen hpos hcell hF256 hname hc h256 hne hF hm hcap hn hN
  go_enter Tryz.func9, Tryz.ntmps9
  go_wp2_with fail
  refine (HD0.out _).mono ?_
  rintro e w1 ⟨rfl, t1⟩
  have T1 := Lib.hid t1
  clear t1 x0
  go_wp2_with fail
  rw [← HT1.out]
  go_loopw [5, 6] (fun s i wr => ∃ k : Nat, 1 ≤ k ∧ k ≤ m ∧ i = .int .i64 k ∧ s = .string (BT (if k < m then textA (F.take k) else NM)) ∧ Turn Nn w wr) (fun _ i _ => m - (intOf i).toNat)
  case atStart => exact ⟨1, by omega, hm1, rfl, by rw [if_pos (by omega)], T1.out⟩
  case round =>
    obtain ⟨k, hk1, hk, rfl, rfl, ht⟩ := hrel
    have HT := Lib.hid ht
    clear ht
    by_cases hlt : k < m
    · rw [if_pos hlt]
      have y0 := cell_turn HT.out (HC.out k hlt)
      have HDK := Lib.hid (digits_any _ (H256.out k hlt))
      have HS := HLT k hk1 hlt
      have hlen := textA_len (l := F.take k) (fun x hx => by
        obtain ⟨j, hj, hjx⟩ := List.mem_iff_getElem.1 hx
        have hj2 : j < F.length := by rw [List.length_take] at hj; omega
        have h3 := H256.out j (by rw [← HM.out]; exact hj2)
        rw [List.getElem?_eq_getElem hj2] at h3
        rw [← hjx, List.getElem_take]
        exact h3)
      have hdl := decDigits_len (H256.out k hlt)
      have htl : (F.take k).length ≤ 20 := by rw [List.length_take]; omega
      by_cases hk2 : k + 1 = m
      · have hk3 : (m : Int) - 1 = (k : Int) := by omega
        have hcat1 : ∀ W, (Op.stringOp .add (BT (textA (F.take k))) ⟨#[43]⟩).run Tryz.prog W = .ok (.string (BT (textA (F.take k) ++ [43]))) W := fun W => cat_run (b := [43]) (by simp; omega) W
        have hcat2 : ∀ W, (Op.stringOp .add (BT (textA (F.take k) ++ [43])) (BT (decDigits (F[k]?.getD 0)))).run Tryz.prog W = .ok (.string (BT NM)) W := fun W => by
          rw [cat_run (by simp; omega) W, HNM.out]
          rw [show m - 1 = k by omega]
          simp
        have HK := Lib.hid hk2
        clear hlen hdl htl HS hk2
        go_wp2_with fail
        refine (HDK.out _).mono ?_
        rintro e w2 ⟨rfl, t2⟩
        have T2 := Lib.hid (HT.out.trans t2)
        clear t2
        go_wp2_with fail
        go_roundw
        case rel => exact ⟨k + 1, by omega, by omega, by go_num, by rw [if_neg (by have := HK.out; omega)], T2.out⟩
        case measure => simp [intOf]; omega
      · have hk3 : ¬ ((k : Int) = (m : Int) - 1) := by omega
        have hcat1 : ∀ W, (Op.stringOp .add (BT (textA (F.take k))) ⟨#[46]⟩).run Tryz.prog W = .ok (.string (BT (textA (F.take k) ++ [46]))) W := fun W => cat_run (b := [46]) (by simp; omega) W
        have hcat2 : ∀ W, (Op.stringOp .add (BT (textA (F.take k) ++ [46])) (BT (decDigits (F[k]?.getD 0)))).run Tryz.prog W = .ok (.string (BT (textA (F.take (k + 1))))) W := fun W => by
          rw [cat_run (by simp; omega) W, HS.out]
          simp
        have HK := Lib.hid hk2
        clear hlen hdl htl HS hk2
        go_wp2_with fail
        refine (HDK.out _).mono ?_
        rintro e w2 ⟨rfl, t2⟩
        have T2 := Lib.hid (HT.out.trans t2)
        clear t2
        go_wp2_with fail
        go_roundw
        case rel => exact ⟨k + 1, by omega, by omega, by go_num, by rw [if_pos (by have := HK.out; omega)], T2.out⟩
        case measure => simp [intOf]; omega
    · obtain rfl : k = m := by omega
      rw [if_neg (Nat.lt_irrefl _)]
      go_wp2_with fail
      go_ret
      exact ⟨rfl, HT.out⟩
end
section
open Go.RowKit Go.Shelf Go.Lib

set_option maxRecDepth 100000 in
set_option maxHeartbeats 8000000 in
theorem name1_one {x : Nat} {b o cap : Nat} {w : World} (hx : x < 256) (hcap : 1 ≤ cap) (hc : w.cell? ⟨b, o, none⟩ = some (.int .u8 (x : Int))) :
    Calls Tryz.prog 9 #[.slice (some ⟨b, o, none⟩) 1 cap, .int .i64 1] w fun e w' => e = .returned (.string (BT (name1 [x]))) ∧ Turn Nn w w' := by
  have hname : name1 [x] = 99 :: decDigits x := rfl
  rw [hname]
  have HD := Lib.hid (digits_any x hx)
  have hdl := decDigits_len hx
  have hcat : ∀ W, (Op.stringOp .add ⟨#[99]⟩ (BT (decDigits x))).run Tryz.prog W = .ok (.string (BT (99 :: decDigits x))) W := fun W => cat_run (a := [99]) (by simp; omega) W
  clear hname hdl
  go_enter Tryz.func9, Tryz.ntmps9
  go_wp2_with fail
  refine (HD.out _).mono ?_
  rintro e w1 ⟨rfl, t1⟩
  have T1 := Lib.hid t1
  clear t1
  go_wp2_with fail
  go_ret
  exact ⟨rfl, T1.out⟩
end
section
open Go.RowKit Go.Shelf Go.Lib

set_option maxRecDepth 100000 in
set_option maxHeartbeats 8000000 in
theorem name_nil {w : World} {k : Int} (hk : k = 0 ∨ k = 1) :
    Calls Tryz.prog 9 #[.slice none 0 0, .int .i64 k] w fun e w' => e = .returned (.string (BT (if k = 1 then name1 [] else name0 []))) ∧ Turn Nn w w' := by
  have HD := Lib.hid (digits_any 0 (by omega))
  have hcat : ∀ W, (Op.stringOp .add ⟨#[99]⟩ (BT (decDigits 0))).run Tryz.prog W = .ok (.string (BT (99 :: decDigits 0))) W := fun W => cat_run (a := [99]) (by decide +kernel) W
  obtain ⟨w1, e1⟩ : ∃ w1, w.alloc (.cells #[.int .u8 0] 5) = w1 := ⟨_, rfl⟩
  obtain ⟨b1, t1⟩ := alloc1 e1
  have c1 : w1.cell? ⟨w.heap.size, 0, none⟩ = some (.int .u8 ((0 : Nat) : Int)) := cell_blk b1
  have HT := Lib.hid t1
  clear b1 t1
  rcases hk with rfl | rfl
  · rw [show (if (0 : Int) = 1 then name1 [] else name0 []) = decDigits 0 from rfl]
    go_enter Tryz.func9, Tryz.ntmps9
    go_wp2_with fail
    refine (HD.out _).mono ?_
    rintro e w2 ⟨rfl, t2⟩
    have T2 := Lib.hid (HT.out.trans t2)
    clear t2
    go_wp2_with fail
    refine wp_loop_rounds 1 ?_
    rw [rounds_succ]
    go_wp2_with fail
    go_ret
    exact ⟨rfl, T2.out⟩
  · rw [show (if (1 : Int) = 1 then name1 [] else name0 []) = 99 :: decDigits 0 from rfl]
    go_enter Tryz.func9, Tryz.ntmps9
    go_wp2_with fail
    refine (HD.out _).mono ?_
    rintro e w2 ⟨rfl, t2⟩
    have T2 := Lib.hid (HT.out.trans t2)
    clear t2
    go_wp2_with fail
    go_ret
    exact ⟨rfl, T2.out⟩
end
section
open Go.RowKit Go.Shelf Go.Lib

set_option maxRecDepth 100000 in
set_option maxHeartbeats 8000000 in
theorem name_emp {w : World} {a : Addr} {cap : Nat} {k : Int} (hk : k = 0 ∨ k = 1) :
    Calls Tryz.prog 9 #[.slice (some a) 0 cap, .int .i64 k] w fun e w' => e = .returned (.string (BT (if k = 1 then name1 [] else name0 []))) ∧ Turn Nn w w' := by
  have HD := Lib.hid (digits_any 0 (by omega))
  have hcat : ∀ W, (Op.stringOp .add ⟨#[99]⟩ (BT (decDigits 0))).run Tryz.prog W = .ok (.string (BT (99 :: decDigits 0))) W := fun W => cat_run (a := [99]) (by decide +kernel) W
  obtain ⟨w1, e1⟩ : ∃ w1, w.alloc (.cells #[.int .u8 0] 5) = w1 := ⟨_, rfl⟩
  obtain ⟨b1, t1⟩ := alloc1 e1
  have c1 : w1.cell? ⟨w.heap.size, 0, none⟩ = some (.int .u8 ((0 : Nat) : Int)) := cell_blk b1
  have HT := Lib.hid t1
  clear b1 t1
  rcases hk with rfl | rfl
  · rw [show (if (0 : Int) = 1 then name1 [] else name0 []) = decDigits 0 from rfl]
    go_enter Tryz.func9, Tryz.ntmps9
    go_wp2_with fail
    refine (HD.out _).mono ?_
    rintro e w2 ⟨rfl, t2⟩
    have T2 := Lib.hid (HT.out.trans t2)
    clear t2
    go_wp2_with fail
    refine wp_loop_rounds 1 ?_
    rw [rounds_succ]
    go_wp2_with fail
    go_ret
    exact ⟨rfl, T2.out⟩
  · rw [show (if (1 : Int) = 1 then name1 [] else name0 []) = 99 :: decDigits 0 from rfl]
    go_enter Tryz.func9, Tryz.ntmps9
    go_wp2_with fail
    refine (HD.out _).mono ?_
    rintro e w2 ⟨rfl, t2⟩
    have T2 := Lib.hid (HT.out.trans t2)
    clear t2
    go_wp2_with fail
    go_ret
    exact ⟨rfl, T2.out⟩
end
section
open Go.RowKit Go.Shelf Go.Lib

/-- Bytes that came in. -/
def ByteSl (w : World) (v : Value) (l : List Nat) : Prop := (∀ n ∈ l, n < 256) ∧ l.length ≤ 9223372036854775807 ∧
  ((v = .slice none 0 0 ∧ l = []) ∨ (∃ a cap, v = .slice (some a) 0 cap ∧ l = []) ∨ ∃ b o cap, v = .slice (some ⟨b, o, none⟩) l.length cap ∧ l.length ≤ cap ∧ ∀ i, i < l.length → w.cell? ⟨b, o + i, none⟩ = some (.int .u8 ((l[i]?.getD 0 : Nat) : Int)))
theorem ByteSl.turn {w w' : World} {v : Value} {l : List Nat} (h : ByteSl w v l) (t : Turn Nn w w') : ByteSl w' v l := by
  obtain ⟨h1, h2, h3⟩ := h
  refine ⟨h1, h2, ?_⟩
  rcases h3 with h3 | h3 | ⟨b, o, cap, e, hc, hx⟩
  · exact .inl h3
  · exact .inr (.inl h3)
  · exact .inr (.inr ⟨b, o, cap, e, hc, fun i hi => cell_turn t (hx i hi)⟩)
theorem name01_any {l : List Nat} {v : Value} {w : World} {k : Int} (hk : k = 0 ∨ k = 1) (h : ByteSl w v l) :
    Calls Tryz.prog 9 #[v, .int .i64 k] w fun e w' => e = .returned (.string (BT (if k = 1 then name1 l else name0 l))) ∧ Turn Nn w w' := by
  obtain ⟨h256, hn, h3⟩ := h
  rcases h3 with ⟨rfl, rfl⟩ | ⟨a, cap, rfl, rfl⟩ | ⟨b, o, cap, rfl, hcap, hc⟩
  · exact name_nil hk
  · exact name_emp hk
  · by_cases h0 : l = []
    · subst h0
      exact name_emp hk
    · rcases hk with rfl | rfl
      · exact name0_any h0 h256 hn hcap hc
      · match l, h256, hn, hcap, hc, h0 with
        | [x], h256, _, hcap, hc, _ => exact name1_one (h256 x (by simp)) hcap (by have := hc 0 (by simp); exact this)
        | x :: y :: r, h256, hn, hcap, hc, _ => exact name1_any (by simp) h256 hn hcap hc
end
end Go.Proofs.YtpbjblbeepbklaaGreatDoor
