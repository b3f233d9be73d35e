/- The document's numbers and texts: digits, in, config, turn. The document's numbers and texts: turn, digits. The document's numbers and texts: digits. Printed by gen_uc.py. The document's numbers and texts: hex. Printed by gen_ud.py. -/
import Derived.Test.YtjnllclpdllceaaGreatDoorTa
import Derived.Test.YtjnllclpdllceaaGreatDoorSj
import Derived.Test.YtjnllclpdllceaaGreatDoorHa
import Derived.Laws.BytesArg
import Derived.Deep.DeepCutAuto
import Derived.Test.YtjnllclpdllceaaGreatDoorVc
namespace Go.Proofs.YtjnllclpdllceaaGreatDoor
set_option linter.unusedSimpArgs false
set_option linter.unusedVariables false
open Go.RowKit Go.Shelf


/-- The bytes of a list that lie in a block, as a text. -/
theorem conv_blk {b n cap : Nat} {zs : List Int} {W : World} {t : TypeId} {d : Nat × Nat} {cs : Array Value} (h : W.heap[b]? = some (.cells cs t d)) (hc : ∀ i, i < n → cs[i]? = some (.int .u8 (zs.getD i 0))) (hn : zs.length = n) :
    (convert 28 9 (.slice (some ⟨b, 0, none⟩) n cap)).run Tryz.prog W = .ok (.string (strOfNums zs)) W :=
  run_convert_bytes_arg (P := Tryz.prog) W 28 5 Tryz.underlying28 Tryz.underlying5 b 0 n cap zs hn (fun i hi => by rw [Nat.zero_add, cell_blk h]; exact hc i hi) 9 Tryz.underlying9

theorem conv_one {z : Int} {W : World} {b : Nat} (h : W.heap[b]? = some (.cells #[.int .u8 z] 5)) : (convert 28 9 (.slice (some ⟨b, 0, none⟩) 1 1)).run Tryz.prog W = .ok (.string ⟨#[UInt8.ofNat z.toNat]⟩) W := by
  have := conv_blk (n := 1) (cap := 1) (zs := [z]) h (fun i hi => by
    obtain rfl : i = 0 := by omega
    rfl) rfl
  rw [this]; rfl

theorem in_any (n a b : Int) (w : World) : Calls Tryz.prog 50 #[.int .i64 n, .int .i64 a, .int .i64 b] w fun e w' => e = .returned (.bool (decide (a ≤ n) && decide (n ≤ b))) ∧ w' = w := by
  by_cases h : a ≤ n
  · have h1 : decide (a ≤ n) = true := decide_eq_true h
    have h2 : decide (n ≥ a) = true := decide_eq_true h
    go_enter Tryz.func50, Tryz.ntmps50
    go_wp2_with fail
    go_ret
    simp [h]
  · have h1 : decide (a ≤ n) = false := decide_eq_false h
    have h2 : decide (n ≥ a) = false := decide_eq_false h
    go_enter Tryz.func50, Tryz.ntmps50
    go_wp2_with fail
    go_ret
    simp [h]

theorem refConfig_any (a b c : Int) (w : World) : Calls Tryz.prog 28 #[.agg #[.int .i64 a, .int .i64 b, .int .i64 c]] w fun e w' => e = .returned (.bool (configOk a b c)) ∧ Turn Nn w w' := by
  have he : configOk a b c = ((decide (1 ≤ a) && decide (a ≤ 64)) && ((decide (1 ≤ b) && decide (b ≤ 32)) && (decide (1 ≤ c) && decide (c ≤ 16)))) := by
    unfold configOk
    simp [Bool.decide_and, Bool.and_assoc]
  rw [he]
  clear he
  cases ha : (decide (1 ≤ a) && decide (a ≤ 64)) with
  | false =>
    go_enter Tryz.func28, Tryz.ntmps28
    go_wp2_with (go_at_call 50; refine (in_any _ _ _ _).mono ?_; rintro e w' ⟨rfl, rfl⟩)
    go_ret
    exact ⟨rfl, (Turn.refl Nn w).alloc _⟩
  | true =>
    cases hb : (decide (1 ≤ b) && decide (b ≤ 32)) with
    | false =>
      go_enter Tryz.func28, Tryz.ntmps28
      go_wp2_with (go_at_call 50; refine (in_any _ _ _ _).mono ?_; rintro e w' ⟨rfl, rfl⟩)
      go_ret
      exact ⟨rfl, (Turn.refl Nn w).alloc _⟩
    | true =>
      go_enter Tryz.func28, Tryz.ntmps28
      go_wp2_with (go_at_call 50; refine (in_any _ _ _ _).mono ?_; rintro e w' ⟨rfl, rfl⟩)
      go_ret
      exact ⟨rfl, (Turn.refl Nn w).alloc _⟩


theorem turnOk_0 (s t : Int) : turnOk ⟨0, s, t⟩ = ((decide (0 ≤ s) && decide (s ≤ 99)) && (decide (1 ≤ t) && decide (t ≤ 1000))) := by
  unfold turnOk; simp [Bool.decide_and, Bool.and_assoc]
theorem turnOk_1 (s t : Int) : turnOk ⟨1, s, t⟩ = (decide (s = 0) && (decide (1 ≤ t) && decide (t ≤ 1000))) := by
  unfold turnOk; simp [Bool.decide_and, Bool.and_assoc]
theorem turnOk_2 (s t : Int) : turnOk ⟨2, s, t⟩ = (decide (s = 0) && decide (t = 0)) := by
  unfold turnOk; simp [Bool.decide_and, Bool.and_assoc]
theorem turnOk_3 (s t : Int) : turnOk ⟨3, s, t⟩ = (decide (s = 0) && decide (t = 0)) := by
  unfold turnOk; simp [Bool.decide_and, Bool.and_assoc]
theorem turnOk_no (k s t : Int) (h0 : k ≠ 0) (h1 : k ≠ 1) (h2 : k ≠ 2) (h3 : k ≠ 3) : turnOk ⟨k, s, t⟩ = false := by
  unfold turnOk; simp [h0, h1, h2, h3]

set_option maxHeartbeats 2000000 in
theorem refTurn_any (k s t : Int) (w : World) : Calls Tryz.prog 29 #[.agg #[.int .i64 k, .int .i64 s, .int .i64 t]] w fun e w' => e = .returned (.bool (turnOk ⟨k, s, t⟩)) ∧ Turn Nn w w' := by
  by_cases h0 : k = 0
  · subst h0
    rw [turnOk_0]
    cases ha : (decide (0 ≤ s) && decide (s ≤ 99)) <;>
    · go_enter Tryz.func29, Tryz.ntmps29
      go_wp2_with (go_at_call 50; refine (in_any _ _ _ _).mono ?_; rintro e w' ⟨rfl, rfl⟩)
      go_ret
      exact ⟨rfl, (Turn.refl Nn w).alloc _⟩
  have e0 : decide (k = 0) = false := decide_eq_false h0
  by_cases h1 : k = 1
  · subst h1
    rw [turnOk_1]
    by_cases ha : s = 0
    · subst ha
      go_enter Tryz.func29, Tryz.ntmps29
      go_wp2_with (go_at_call 50; refine (in_any _ _ _ _).mono ?_; rintro e w' ⟨rfl, rfl⟩)
      go_ret
      exact ⟨rfl, (Turn.refl Nn w).alloc _⟩
    · have ha' : decide (s = 0) = false := decide_eq_false ha
      rw [ha']
      go_enter Tryz.func29, Tryz.ntmps29
      go_wp2_with (go_at_call 50; refine (in_any _ _ _ _).mono ?_; rintro e w' ⟨rfl, rfl⟩)
      go_ret
      exact ⟨rfl, (Turn.refl Nn w).alloc _⟩
  have e1 : decide (k = 1) = false := decide_eq_false h1
  by_cases h2 : k = 2
  · subst h2
    rw [turnOk_2]
    by_cases ha : s = 0
    · subst ha
      go_enter Tryz.func29, Tryz.ntmps29
      go_wp2_with (fail)
      go_ret
      exact ⟨by first | (simp; done) | (simp; rfl), (Turn.refl Nn w).alloc _⟩
    · have ha' : decide (s = 0) = false := decide_eq_false ha
      rw [ha']
      go_enter Tryz.func29, Tryz.ntmps29
      go_wp2_with (fail)
      go_ret
      exact ⟨by first | (simp; done) | (simp; rfl), (Turn.refl Nn w).alloc _⟩
  have e2 : decide (k = 2) = false := decide_eq_false h2
  by_cases h3 : k = 3
  · subst h3
    rw [turnOk_3]
    by_cases ha : s = 0
    · subst ha
      go_enter Tryz.func29, Tryz.ntmps29
      go_wp2_with (fail)
      go_ret
      exact ⟨by first | (simp; done) | (simp; rfl), (Turn.refl Nn w).alloc _⟩
    · have ha' : decide (s = 0) = false := decide_eq_false ha
      rw [ha']
      go_enter Tryz.func29, Tryz.ntmps29
      go_wp2_with (fail)
      go_ret
      exact ⟨by simp, (Turn.refl Nn w).alloc _⟩
  have e3 : decide (k = 3) = false := decide_eq_false h3
  rw [turnOk_no k s t h0 h1 h2 h3]
  go_enter Tryz.func29, Tryz.ntmps29
  go_wp2_with (fail)
  go_ret
  exact ⟨rfl, (Turn.refl Nn w).alloc _⟩


theorem byteOf (n : Nat) : UInt8.ofNat (48 + (n : Int)).toNat = UInt8.ofNat (48 + n) := congrArg UInt8.ofNat (by omega)

set_option maxRecDepth 100000 in
theorem digits_small {n : Nat} (h : n < 10) (w : World) : Calls Tryz.prog 30 #[.int .i64 n] w fun e w' => e = .returned (.string (BT (Lib.decDigits n))) ∧ Turn Nn w w' := by
  have hd : decide ((n : Int) < 10) = true := decide_eq_true (by omega)
  obtain ⟨b1, t1⟩ := alloc1 (w := w) (a := .cells #[.int .u8 (48 + (n : Int))] 5) rfl
  have hc := conv_one b1
  obtain ⟨D, hD⟩ : ∃ D : ByteArray, D = ⟨#[UInt8.ofNat (48 + n)]⟩ := ⟨_, rfl⟩
  rw [byteOf, ← hD] at hc
  have HD := Lib.hid hD
  clear hD
  go_enter Tryz.func30, Tryz.ntmps30
  go_wp2_with fail
  go_ret
  exact ⟨by rw [decDigits_small h, HD.out]; rfl, t1⟩

theorem decDigits_short (n : Nat) : (Lib.decDigits n).length ≤ n + 1 := by
  induction n using Nat.strongRecOn with
  | _ n ih =>
    by_cases h : n < 10
    · rw [decDigits_small h]; simp
    · rw [decDigits_big h]
      have := ih (n / 10) (by omega)
      simp
      omega

set_option maxRecDepth 100000 in
set_option maxHeartbeats 4000000 in
theorem digits_big {n : Nat} (h : ¬ n < 10) (hn : n < 9223372036854775808) (ih : ∀ m, m < n → m < 9223372036854775808 → ∀ w, Calls Tryz.prog 30 #[.int .i64 (m : Int)] w fun e w' => e = .returned (.string (BT (Lib.decDigits m))) ∧ Turn Nn w w') (w : World) :
    Calls Tryz.prog 30 #[.int .i64 n] w fun e w' => e = .returned (.string (BT (Lib.decDigits n))) ∧ Turn Nn w w' := by
  have hd : decide ((n : Int) < 10) = false := decide_eq_false (by omega)
  have hq : (n : Int).tdiv 10 = ((n / 10 : Nat) : Int) := by rw [Int.tdiv_eq_ediv_of_nonneg (by omega)]; omega
  have hr : (n : Int).tmod 10 = ((n % 10 : Nat) : Int) := by rw [Int.tmod_eq_emod_of_nonneg (by omega)]; omega
  have hr9 : n % 10 < 10 := by omega
  have hj : BT (Lib.decDigits (n / 10)) ++ (⟨#[UInt8.ofNat (48 + n % 10)]⟩ : ByteArray) = BT (Lib.decDigits n) := by
    rw [decDigits_big h]; unfold BT; apply ByteArray.ext; simp
  generalize hm : n % 10 = m at hr hr9 hj
  generalize hk : n / 10 = q at hq hj
  have hql : q < n := by omega
  have z1 : IntKind.i64.wrap (q : Int) = q := IntWalk.i64_in _ (by omega)
  have z2 : IntKind.u8.wrap (m : Int) = m := IntWalk.u8_in _ (by omega)
  have z3 : IntKind.u8.wrap (48 + (m : Int)) = 48 + m := IntWalk.u8_in _ (by omega)
  obtain ⟨D, hD⟩ : ∃ D : ByteArray, D = ⟨#[UInt8.ofNat (48 + m)]⟩ := ⟨_, rfl⟩
  rw [← hD] at hj
  have hs : ∀ W : World, (Op.stringOp .add (BT (Lib.decDigits q)) D).run Tryz.prog W = .ok (.string (BT (Lib.decDigits n))) W := fun W => by
    have h1 := decDigits_short q
    rw [run_string_add_sum W _ _ (by rw [hD]; unfold BT; simp [ByteArray.size]; omega), hj]
  have HS := Lib.hid hs
  have HD := Lib.hid hD
  have IH := Lib.hid (ih q hql (by omega))
  clear hm hk hj hs hD ih
  go_enter Tryz.func30, Tryz.ntmps30
  go_upto_region 3 with (fail)
  refine held_begin (fun _ => True) (by kernel_rfl) ?_
  generalize hwd : World.drew w = wd
  have TD : Hid (Turn Nn w wd) := Lib.hid (by rw [← hwd]; exact (Turn.refl Nn w).drew)
  clear hwd
  refine held_take 0 ?_ rfl (by kernel_rfl) (by kernel_rfl) (by kernel_rfl) (fun _ _ _ h => h) (Or.inl ⟨by kernel_rfl, ?_⟩) trivial ?_
  rotate_left 1
  · intro u hu; clear hu; go_simp; first | done | with_reducible rfl
  try simp only [Act.put, List.getElem_toArray, List.getElem_cons_succ, List.getElem_cons_zero, List.setIfInBounds_toArray, List.set_cons_succ, List.set_cons_zero]
  refine held_take 1 ?_ rfl (by kernel_rfl) (by kernel_rfl) (by kernel_rfl) (fun _ _ _ h => h) (Or.inl ⟨by kernel_rfl, ?_⟩) trivial ?_
  rotate_left 1
  · intro u hu; clear hu; go_simp; first | done | with_reducible rfl
  try simp only [Act.put, List.getElem_toArray, List.getElem_cons_succ, List.getElem_cons_zero, List.setIfInBounds_toArray, List.set_cons_succ, List.set_cons_zero]
  refine held_take 3 ?_ rfl (by kernel_rfl) (by kernel_rfl) (by kernel_rfl) (fun _ _ _ h => h) (Or.inl ⟨by kernel_rfl, ?_⟩) trivial ?_
  rotate_left 1
  · intro u hu; clear hu; go_simp; first | done | with_reducible rfl
  try simp only [Act.put, List.getElem_toArray, List.getElem_cons_succ, List.getElem_cons_zero, List.setIfInBounds_toArray, List.set_cons_succ, List.set_cons_zero]
  refine held_take 4 ?_ rfl (by kernel_rfl) (by kernel_rfl) (by kernel_rfl) (fun _ _ _ h => h) (Or.inl ⟨by kernel_rfl, ?_⟩) trivial ?_
  rotate_left 1
  · intro u hu; clear hu; go_simp; first | done | with_reducible rfl
  try simp only [Act.put, List.getElem_toArray, List.getElem_cons_succ, List.getElem_cons_zero, List.setIfInBounds_toArray, List.set_cons_succ, List.set_cons_zero]
  refine held_take 5 ?_ rfl (by kernel_rfl) (by kernel_rfl) (by kernel_rfl) (fun _ _ _ h => h) (Or.inl ⟨by kernel_rfl, ?_⟩) trivial ?_
  rotate_left 1
  · intro u hu; clear hu; go_simp; first | done | with_reducible rfl
  try simp only [Act.put, List.getElem_toArray, List.getElem_cons_succ, List.getElem_cons_zero, List.setIfInBounds_toArray, List.set_cons_succ, List.set_cons_zero]
  refine held_take 6 ?_ rfl (by kernel_rfl) (by kernel_rfl) (by kernel_rfl) (fun _ _ _ h => h) (Or.inl ⟨by kernel_rfl, ?_⟩) trivial ?_
  rotate_left 1
  · intro u hu; clear hu; go_simp; first | done | with_reducible rfl
  try simp only [Act.put, List.getElem_toArray, List.getElem_cons_succ, List.getElem_cons_zero, List.setIfInBounds_toArray, List.set_cons_succ, List.set_cons_zero]
  refine held_pair 2 7 (by kernel_rfl) rfl rfl (by kernel_rfl) (by kernel_rfl) (fun K hK => ?_) (fun K hK => ?_)
  · go_simp
    refine (IH.out _).mono ?_
    rintro e w1 ⟨rfl, t⟩
    refine hK _ _ trivial ?_
    clear hK K
    have T := Lib.hid t
    clear t
    try simp only [Act.put, List.getElem_toArray, List.getElem_cons_succ, List.getElem_cons_zero, List.setIfInBounds_toArray, List.set_cons_succ, List.set_cons_zero]
    refine held_one 7 (by kernel_rfl) rfl (by kernel_rfl) (fun K hK => ?_)
    obtain ⟨b1, t1⟩ := alloc1 (w := w1) (a := .cells #[.int .u8 (48 + (m : Int))] 5) rfl
    have B := Lib.hid b1
    have TB := Lib.hid t1
    clear b1 t1
    go_simp
    refine hK _ _ trivial ?_
    clear hK K
    try simp only [Act.put, List.getElem_toArray, List.getElem_cons_succ, List.getElem_cons_zero, List.setIfInBounds_toArray, List.set_cons_succ, List.set_cons_zero]
    refine held_one 8 (by kernel_rfl) rfl (by kernel_rfl) (fun K hK => ?_)
    have hc := conv_one B.out
    rw [byteOf, ← HD.out] at hc
    go_simp
    refine hK _ _ trivial ?_
    clear hK K hc
    try simp only [Act.put, List.getElem_toArray, List.getElem_cons_succ, List.getElem_cons_zero, List.setIfInBounds_toArray, List.set_cons_succ, List.set_cons_zero]
    refine held_one 9 (by kernel_rfl) rfl (by kernel_rfl) (fun K hK => ?_)
    have hs := HS.out
    go_simp
    refine hK _ _ trivial ?_
    clear hK K hs
    try simp only [Act.put, List.getElem_toArray, List.getElem_cons_succ, List.getElem_cons_zero, List.setIfInBounds_toArray, List.set_cons_succ, List.set_cons_zero]
    refine held_one 10 (by kernel_rfl) rfl (by kernel_rfl) (fun K hK => ?_)
    go_simp
    refine hK _ _ trivial ?_
    clear hK K
    try simp only [Act.put, List.getElem_toArray, List.getElem_cons_succ, List.getElem_cons_zero, List.setIfInBounds_toArray, List.set_cons_succ, List.set_cons_zero]
    refine wpAnyH_done (by kernel_rfl) ?_ _
    go_wp2_with fail
    go_ret
    exact ⟨rfl, (TD.out.trans T.out).trans TB.out⟩
  · obtain ⟨b1, t1⟩ := alloc1 (w := wd) (a := .cells #[.int .u8 (48 + (m : Int))] 5) rfl
    have B := Lib.hid b1
    have TB := Lib.hid t1
    clear b1 t1
    go_simp
    refine hK _ _ trivial ?_
    clear hK K
    try simp only [Act.put, List.getElem_toArray, List.getElem_cons_succ, List.getElem_cons_zero, List.setIfInBounds_toArray, List.set_cons_succ, List.set_cons_zero]
    refine held_pair 2 8 (by kernel_rfl) rfl rfl (by kernel_rfl) (by kernel_rfl) (fun K hK => ?_) (fun K hK => ?_)
    · go_simp
      refine (IH.out _).mono ?_
      rintro e w1 ⟨rfl, t⟩
      refine hK _ _ trivial ?_
      clear hK K
      have T := Lib.hid t
      clear t
      try simp only [Act.put, List.getElem_toArray, List.getElem_cons_succ, List.getElem_cons_zero, List.setIfInBounds_toArray, List.set_cons_succ, List.set_cons_zero]
      refine held_one 8 (by kernel_rfl) rfl (by kernel_rfl) (fun K hK => ?_)
      have hc := conv_one ((T.out.block _ (heap_lt B.out) (fun h => h)).trans B.out)
      rw [byteOf, ← HD.out] at hc
      go_simp
      refine hK _ _ trivial ?_
      clear hK K hc
      try simp only [Act.put, List.getElem_toArray, List.getElem_cons_succ, List.getElem_cons_zero, List.setIfInBounds_toArray, List.set_cons_succ, List.set_cons_zero]
      refine held_one 9 (by kernel_rfl) rfl (by kernel_rfl) (fun K hK => ?_)
      have hs := HS.out
      go_simp
      refine hK _ _ trivial ?_
      clear hK K hs
      try simp only [Act.put, List.getElem_toArray, List.getElem_cons_succ, List.getElem_cons_zero, List.setIfInBounds_toArray, List.set_cons_succ, List.set_cons_zero]
      refine held_one 10 (by kernel_rfl) rfl (by kernel_rfl) (fun K hK => ?_)
      go_simp
      refine hK _ _ trivial ?_
      clear hK K
      try simp only [Act.put, List.getElem_toArray, List.getElem_cons_succ, List.getElem_cons_zero, List.setIfInBounds_toArray, List.set_cons_succ, List.set_cons_zero]
      refine wpAnyH_done (by kernel_rfl) ?_ _
      go_wp2_with fail
      go_ret
      exact ⟨rfl, (TD.out.trans TB.out).trans T.out⟩
    · have hc := conv_one B.out
      rw [byteOf, ← HD.out] at hc
      go_simp
      refine hK _ _ trivial ?_
      clear hK K hc
      try simp only [Act.put, List.getElem_toArray, List.getElem_cons_succ, List.getElem_cons_zero, List.setIfInBounds_toArray, List.set_cons_succ, List.set_cons_zero]
      refine held_one 2 (by kernel_rfl) rfl (by kernel_rfl) (fun K hK => ?_)
      go_simp
      refine (IH.out _).mono ?_
      rintro e w1 ⟨rfl, t⟩
      refine hK _ _ trivial ?_
      clear hK K
      have T := Lib.hid t
      clear t
      try simp only [Act.put, List.getElem_toArray, List.getElem_cons_succ, List.getElem_cons_zero, List.setIfInBounds_toArray, List.set_cons_succ, List.set_cons_zero]
      refine held_one 9 (by kernel_rfl) rfl (by kernel_rfl) (fun K hK => ?_)
      have hs := HS.out
      go_simp
      refine hK _ _ trivial ?_
      clear hK K hs
      try simp only [Act.put, List.getElem_toArray, List.getElem_cons_succ, List.getElem_cons_zero, List.setIfInBounds_toArray, List.set_cons_succ, List.set_cons_zero]
      refine held_one 10 (by kernel_rfl) rfl (by kernel_rfl) (fun K hK => ?_)
      go_simp
      refine hK _ _ trivial ?_
      clear hK K
      try simp only [Act.put, List.getElem_toArray, List.getElem_cons_succ, List.getElem_cons_zero, List.setIfInBounds_toArray, List.set_cons_succ, List.set_cons_zero]
      refine wpAnyH_done (by kernel_rfl) ?_ _
      go_wp2_with fail
      go_ret
      exact ⟨rfl, (TD.out.trans TB.out).trans T.out⟩

theorem digits_nat (n : Nat) : n < 9223372036854775808 → ∀ w, Calls Tryz.prog 30 #[.int .i64 (n : Int)] w fun e w' => e = .returned (.string (BT (Lib.decDigits n))) ∧ Turn Nn w w' := by
  induction n using Nat.strongRecOn with
  | _ n ih =>
    intro hn w
    by_cases h : n < 10
    · exact digits_small h w
    · exact digits_big h hn (fun m hm _ w => ih m hm (by omega) w) w
theorem digits_any {z : Int} (h0 : 0 ≤ z) (h1 : z < 9223372036854775808) (w : World) : Calls Tryz.prog 30 #[.int .i64 z] w fun e w' => e = .returned (.string (BT (Lib.itoa z))) ∧ Turn Nn w w' := by
  obtain ⟨n, rfl⟩ : ∃ n : Nat, z = n := ⟨z.toNat, by omega⟩
  have := digits_nat n (by omega) w
  rw [show Lib.itoa (n : Int) = Lib.decDigits n by unfold Lib.itoa; rw [if_neg (by omega)]; simp]
  exact this


theorem hexL_step : ∀ {l : Bs} {k : Nat} (h : k < l.length), hexL (l.take (k + 1)) = hexL (l.take k) ++ hx2 l[k]
  | [], k, h => by simp at h
  | b :: r, 0, h => by simp [hexL]
  | b :: r, k + 1, h => by
    simp only [List.take_succ_cons, hexL, List.getElem_cons_succ]
    rw [hexL_step (by simpa using h), List.append_assoc]
theorem BT_size (a : Bs) : (BT a).size = a.length := by unfold BT; simp [ByteArray.size]
theorem BT_at {s : Bs} {k : Nat} (h : k < s.length) (w : World) : (Instr.index 9 (.string (BT s)) (.int .i64 k)).run Tryz.prog w = .ok (.int .u8 ((s[k].toNat : Nat) : Int)) w := by
  have h1 : k < (BT s).size := by rw [BT_size]; exact h
  rw [run_index_string w 9 (BT s) .i64 k Tryz.underlying9, dif_pos ⟨by omega, by omega⟩]
  rfl

theorem conv_two {x y : Int} {W : World} {b : Nat} (h : W.heap[b]? = some (.cells #[.int .u8 x, .int .u8 y] 5)) : (convert 28 9 (.slice (some ⟨b, 0, none⟩) 2 2)).run Tryz.prog W = .ok (.string (BT [UInt8.ofNat x.toNat, UInt8.ofNat y.toNat])) W := by
  have := conv_blk (n := 2) (cap := 2) (zs := [x, y]) h (fun i hi => by
    obtain rfl | rfl : i = 0 ∨ i = 1 := by omega
    · rfl
    · rfl) rfl
  rw [this]; rfl

set_option maxRecDepth 100000 in
set_option maxHeartbeats 8000000 in
theorem hex_any {s : Bs} (hs : s.length ≤ 1000000) (w : World) : Calls Tryz.prog 31 #[.string (BT s)] w fun e w' => e = .returned (.string (BT (hexL s))) ∧ Turn Nn w w' := by
  obtain ⟨M, hM⟩ : ∃ M, BT s = M := ⟨_, rfl⟩
  have hMs : M.size = s.length := by rw [← hM, BT_size]
  have HM := Lib.hid hM
  have HMS := Lib.hid hMs
  have hMl : M.size ≤ 1000000 := by omega
  rw [hM]
  clear hM hMs
  go_enter Tryz.func31, Tryz.ntmps31
  go_wp2_with fail
  go_loopw [4, 5] (fun o i wr => ∃ k : Nat, k ≤ M.size ∧ i = .int .i64 k ∧ o = .string (BT (hexL (s.take k))) ∧ Turn Nn w wr) (fun _ i _ => M.size - (intOf i).toNat)
  case atStart => exact ⟨0, by omega, rfl, rfl, Turn.refl Nn w⟩
  case round =>
    obtain ⟨k, hk, rfl, rfl, hp⟩ := hrel
    have PR := Lib.hid hp
    clear hp
    by_cases hlt : k < M.size
    · have hkm : k < s.length := by rw [← HMS.out]; exact hlt
      have ST := Lib.hid (hexL_step hkm)
      have hll := hexL_length (s.take k)
      have hl2 : (s.take k).length ≤ k := List.length_take_le _ _
      obtain ⟨c, hc⟩ : ∃ c, s[k] = c := ⟨_, rfl⟩
      have hiS : ∀ w, (Instr.index 9 (.string M) (.int .i64 k)).run Tryz.prog w = .ok (.int .u8 (c.toNat : Int)) w := fun w => by
        rw [← HM.out, ← hc]; exact BT_at hkm w
      obtain ⟨u1, hu1⟩ : ∃ u, Go.Proofs.YtjnllclpdllceaaGreatDoor.hx (c.toNat / 16) = u := ⟨_, rfl⟩
      obtain ⟨u2, hu2⟩ : ∃ u, Go.Proofs.YtjnllclpdllceaaGreatDoor.hx (c.toNat % 16) = u := ⟨_, rfl⟩
      obtain ⟨q, hq⟩ : ∃ q : Nat, c.toNat / 16 = q := ⟨_, rfl⟩
      obtain ⟨m, hm⟩ : ∃ m : Nat, c.toNat % 16 = m := ⟨_, rfl⟩
      have hcl := c.toNat_lt
      have td : (c.toNat : Int).tdiv 16 = (q : Int) := by rw [Int.tdiv_eq_ediv_of_nonneg (by omega)]; omega
      have tm : (c.toNat : Int).tmod 16 = (m : Int) := by rw [Int.tmod_eq_emod_of_nonneg (by omega)]; omega
      have z1 : IntKind.u8.wrap (q : Int) = q := IntWalk.u8_in _ (by omega)
      have z2 : IntKind.u8.wrap (m : Int) = m := IntWalk.u8_in _ (by omega)
      have hi1 : ∀ w, (Instr.index 9 (.string ⟨#[48, 49, 50, 51, 52, 53, 54, 55, 56, 57, 97, 98, 99, 100, 101, 102]⟩) (.int .u8 (q : Int))).run Tryz.prog w = .ok (.int .u8 (u1.toNat : Int)) w := fun w => by
        rw [← hu1, hq]
        exact halves_at (by omega) w
      have hi2 : ∀ w, (Instr.index 9 (.string ⟨#[48, 49, 50, 51, 52, 53, 54, 55, 56, 57, 97, 98, 99, 100, 101, 102]⟩) (.int .u8 (m : Int))).run Tryz.prog w = .ok (.int .u8 (u2.toNat : Int)) w := fun w => by
        rw [← hu2, hm]
        exact halves_at (by omega) w
      have HX2 : Hid (hx2 c = [u1, u2]) := Lib.hid (by rw [← hu1, ← hu2]; rfl)
      rw [hc] at ST
      obtain ⟨L, hL⟩ : ∃ L, hexL (s.take k) = L := ⟨_, rfl⟩
      have hadd : ∀ W : World, (Op.stringOp .add (BT L) (BT [u1, u2])).run Tryz.prog W = .ok (.string (BT (hexL (s.take (k + 1))))) W := fun W => by
        rw [run_string_add_sum W _ _ (by rw [BT_size, BT_size, ← hL]; simp; omega), BT_append, ST.out, HX2.out, hL]
      have HAD := Lib.hid hadd
      rw [hL]
      clear hu1 hu2 hq hm hc hL hadd hll hl2 hkm ST
      go_wp2_with fail
      refine held_begin (fun _ => True) (by kernel_rfl) ?_
      generalize hwd : World.drew wr = wd
      have TD : Hid (Turn Nn w wd) := Lib.hid (by rw [← hwd]; exact PR.out.drew)
      clear hwd
      refine held_take 0 ?_ rfl (by kernel_rfl) (by kernel_rfl) (by kernel_rfl) (fun _ _ _ h => h) (Or.inl ⟨by kernel_rfl, ?_⟩) trivial ?_
      rotate_left 1
      · intro u hu; clear hu; go_simp; first | done | with_reducible rfl
      try simp only [Act.put, List.getElem_toArray, List.getElem_cons_succ, List.getElem_cons_zero, List.setIfInBounds_toArray, List.set_cons_succ, List.set_cons_zero]
      refine held_take 1 ?_ rfl (by kernel_rfl) (by kernel_rfl) (by kernel_rfl) (fun _ _ _ h => h) (Or.inl ⟨by kernel_rfl, ?_⟩) trivial ?_
      rotate_left 1
      · intro u hu; clear hu; go_simp; first | done | with_reducible rfl
      try simp only [Act.put, List.getElem_toArray, List.getElem_cons_succ, List.getElem_cons_zero, List.setIfInBounds_toArray, List.set_cons_succ, List.set_cons_zero]
      refine held_take 2 ?_ rfl (by kernel_rfl) (by kernel_rfl) (by kernel_rfl) (fun _ _ _ h => h) (Or.inl ⟨by kernel_rfl, ?_⟩) trivial ?_
      rotate_left 1
      · intro u hu; clear hu; go_simp; first | done | with_reducible rfl
      try simp only [Act.put, List.getElem_toArray, List.getElem_cons_succ, List.getElem_cons_zero, List.setIfInBounds_toArray, List.set_cons_succ, List.set_cons_zero]
      refine held_take 3 ?_ rfl (by kernel_rfl) (by kernel_rfl) (by kernel_rfl) (fun _ _ _ h => h) (Or.inl ⟨by kernel_rfl, ?_⟩) trivial ?_
      rotate_left 1
      · intro u hu; clear hu; go_simp; first | done | with_reducible rfl
      try simp only [Act.put, List.getElem_toArray, List.getElem_cons_succ, List.getElem_cons_zero, List.setIfInBounds_toArray, List.set_cons_succ, List.set_cons_zero]
      refine held_take 4 ?_ rfl (by kernel_rfl) (by kernel_rfl) (by kernel_rfl) (fun _ _ _ h => h) (Or.inl ⟨by kernel_rfl, ?_⟩) trivial ?_
      rotate_left 1
      · intro u hu; clear hu; go_simp; first | done | with_reducible rfl
      try simp only [Act.put, List.getElem_toArray, List.getElem_cons_succ, List.getElem_cons_zero, List.setIfInBounds_toArray, List.set_cons_succ, List.set_cons_zero]
      refine held_take 5 ?_ rfl (by kernel_rfl) (by kernel_rfl) (by kernel_rfl) (fun _ _ _ h => h) (Or.inl ⟨by kernel_rfl, ?_⟩) trivial ?_
      rotate_left 1
      · intro u hu; clear hu; go_simp; first | done | with_reducible rfl
      try simp only [Act.put, List.getElem_toArray, List.getElem_cons_succ, List.getElem_cons_zero, List.setIfInBounds_toArray, List.set_cons_succ, List.set_cons_zero]
      refine held_take 6 ?_ rfl (by kernel_rfl) (by kernel_rfl) (by kernel_rfl) (fun _ _ _ h => h) (Or.inl ⟨by kernel_rfl, ?_⟩) trivial ?_
      rotate_left 1
      · intro u hu; clear hu; go_simp; first | done | with_reducible rfl
      try simp only [Act.put, List.getElem_toArray, List.getElem_cons_succ, List.getElem_cons_zero, List.setIfInBounds_toArray, List.set_cons_succ, List.set_cons_zero]
      refine held_take 7 ?_ rfl (by kernel_rfl) (by kernel_rfl) (by kernel_rfl) (fun _ _ _ h => h) (Or.inl ⟨by kernel_rfl, ?_⟩) trivial ?_
      rotate_left 1
      · intro u hu; clear hu; go_simp; first | done | with_reducible rfl
      try simp only [Act.put, List.getElem_toArray, List.getElem_cons_succ, List.getElem_cons_zero, List.setIfInBounds_toArray, List.set_cons_succ, List.set_cons_zero]
      refine held_take 8 ?_ rfl (by kernel_rfl) (by kernel_rfl) (by kernel_rfl) (fun _ _ _ h => h) (Or.inl ⟨by kernel_rfl, ?_⟩) trivial ?_
      rotate_left 1
      · intro u hu; clear hu; go_simp; first | done | with_reducible rfl
      try simp only [Act.put, List.getElem_toArray, List.getElem_cons_succ, List.getElem_cons_zero, List.setIfInBounds_toArray, List.set_cons_succ, List.set_cons_zero]
      refine held_take 9 ?_ rfl (by kernel_rfl) (by kernel_rfl) (by kernel_rfl) (fun _ _ _ h => h) (Or.inl ⟨by kernel_rfl, ?_⟩) trivial ?_
      rotate_left 1
      · intro u hu; clear hu; go_simp; first | done | with_reducible rfl
      try simp only [Act.put, List.getElem_toArray, List.getElem_cons_succ, List.getElem_cons_zero, List.setIfInBounds_toArray, List.set_cons_succ, List.set_cons_zero]
      refine held_take 10 ?_ rfl (by kernel_rfl) (by kernel_rfl) (by kernel_rfl) (fun _ _ _ h => h) (Or.inl ⟨by kernel_rfl, ?_⟩) trivial ?_
      rotate_left 1
      · intro u hu; clear hu; go_simp; first | done | with_reducible rfl
      try simp only [Act.put, List.getElem_toArray, List.getElem_cons_succ, List.getElem_cons_zero, List.setIfInBounds_toArray, List.set_cons_succ, List.set_cons_zero]
      refine held_take 11 ?_ rfl (by kernel_rfl) (by kernel_rfl) (by kernel_rfl) (fun _ _ _ h => h) (Or.inl ⟨by kernel_rfl, ?_⟩) trivial ?_
      rotate_left 1
      · intro u hu; clear hu; go_simp; first | done | with_reducible rfl
      try simp only [Act.put, List.getElem_toArray, List.getElem_cons_succ, List.getElem_cons_zero, List.setIfInBounds_toArray, List.set_cons_succ, List.set_cons_zero]
      refine held_take 12 ?_ rfl (by kernel_rfl) (by kernel_rfl) (by kernel_rfl) (fun _ _ _ h => h) (Or.inl ⟨by kernel_rfl, ?_⟩) trivial ?_
      rotate_left 1
      · intro u hu; clear hu; go_simp; first | done | with_reducible rfl
      try simp only [Act.put, List.getElem_toArray, List.getElem_cons_succ, List.getElem_cons_zero, List.setIfInBounds_toArray, List.set_cons_succ, List.set_cons_zero]
      obtain ⟨b1, t1⟩ := alloc1 (w := wd) (a := .cells #[.int .u8 (u1.toNat : Int), .int .u8 (u2.toNat : Int)] 5) rfl
      have TB := Lib.hid t1
      have HC := Lib.hid (conv_two b1)
      clear b1 t1
      refine held_one 13 (by kernel_rfl) rfl (by kernel_rfl) (fun K hK => ?_)
      go_simp
      refine hK _ _ trivial ?_
      clear hK K
      try simp only [Act.put, List.getElem_toArray, List.getElem_cons_succ, List.getElem_cons_zero, List.setIfInBounds_toArray, List.set_cons_succ, List.set_cons_zero]
      refine held_one 14 (by kernel_rfl) rfl (by kernel_rfl) (fun K hK => ?_)
      have hc := HC.out
      simp only [Int.toNat_natCast, UInt8.ofNat_toNat] at hc
      go_simp
      refine hK _ _ trivial ?_
      clear hK K hc
      try simp only [Act.put, List.getElem_toArray, List.getElem_cons_succ, List.getElem_cons_zero, List.setIfInBounds_toArray, List.set_cons_succ, List.set_cons_zero]
      refine held_one 15 (by kernel_rfl) rfl (by kernel_rfl) (fun K hK => ?_)
      have hadd := HAD.out
      go_simp
      refine hK _ _ trivial ?_
      clear hK K hadd
      try simp only [Act.put, List.getElem_toArray, List.getElem_cons_succ, List.getElem_cons_zero, List.setIfInBounds_toArray, List.set_cons_succ, List.set_cons_zero]
      refine held_one 16 (by kernel_rfl) rfl (by kernel_rfl) (fun K hK => ?_)
      go_simp
      refine hK _ _ trivial ?_
      clear hK K
      try simp only [Act.put, List.getElem_toArray, List.getElem_cons_succ, List.getElem_cons_zero, List.setIfInBounds_toArray, List.set_cons_succ, List.set_cons_zero]
      refine wpAnyH_done (by kernel_rfl) ?_ _
      go_wp2_with fail
      go_roundw
      case rel => exact ⟨k + 1, by omega, by go_num, rfl, TD.out.trans TB.out⟩
      case measure => simp [intOf]; omega
    · have hks : s.take k = s := List.take_of_length_le (by rw [← HMS.out]; omega)
      rw [hks]
      clear hks
      go_wp2_with fail
      go_ret
      exact ⟨rfl, PR.out⟩
end Go.Proofs.YtjnllclpdllceaaGreatDoor
