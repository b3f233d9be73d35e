/- The document's walks: whole numbers' digits. Printed by gen_ye.py. The document's walks: what a whole number's digits read as. Printed by gen_yf.py. The document's walks: kinds' words, an endpoint's name, a message. Printed by gen_yg.py. -/
import Derived.Test.YtpbjblbeepbklaaGreatDoorKq
import Derived.Test.YtpbjblbeepbklaaGreatDoorKr
import Derived.Test.YtpbjblbeepbklaaGreatDoorKy
import Derived.Test.YtpbjblbeepbklaaGreatDoorKk
namespace Go.Proofs.YtpbjblbeepbklaaGreatDoor
set_option linter.unusedSimpArgs false
set_option linter.unusedVariables false
section
open Go.RowKit Go.Shelf Go.Lib

theorem dec_len {n : Nat} (h : n < 9223372036854775808) : (decDigits n).length ≤ 21 := by
  have := itoa_len (n := (n : Int)) ⟨by omega, by omega⟩
  rw [itoa_nat] at this
  exact this
set_option maxRecDepth 100000 in
theorem whole_small {n : Nat} (h : n < 10) (w : World) : Calls Tryz.prog 76 #[.int .i64 n] w fun e w' => e = .returned (.string (BT (Lib.decDigits n))) ∧ Turn Nn w w' := by
  have hd : decide ((n : Int) < 10) = true := decide_eq_true (by omega)
  have hd0 : decide ((n : Int) < 0) = false := decide_eq_false (by omega)
  have hd1 : ¬ (n : Int) < 0 := by omega
  have hd2 : (n : Int) < 10 := by omega
  obtain ⟨b1, t1⟩ := alloc1 (w := w) (a := .cells #[.int .u8 (48 + (n : Int))] 5) rfl
  have hc := conv_one b1
  obtain ⟨D, hD⟩ : ∃ D : ByteArray, D = ⟨#[UInt8.ofNat (48 + n)]⟩ := ⟨_, rfl⟩
  rw [byteOf, ← hD] at hc
  have z2 : IntKind.u8.wrap (n : Int) = n := IntWalk.u8_in _ (by omega)
  have z3 : IntKind.u8.wrap (48 + (n : Int)) = 48 + n := IntWalk.u8_in _ (by omega)
  have HD := Lib.hid hD
  clear hD
  go_enter Tryz.func76, Tryz.ntmps76
  go_wp2_with fail
  go_ret
  exact ⟨by rw [decDigits_small h, HD.out]; rfl, t1⟩
set_option maxRecDepth 100000 in
set_option maxHeartbeats 4000000 in
theorem whole_big {n : Nat} (h : ¬ n < 10) (hn : n < 9223372036854775808) (ih : ∀ m, m < n → m < 9223372036854775808 → ∀ w, Calls Tryz.prog 76 #[.int .i64 (m : Int)] w fun e w' => e = .returned (.string (BT (Lib.decDigits m))) ∧ Turn Nn w w') (w : World) :
    Calls Tryz.prog 76 #[.int .i64 n] w fun e w' => e = .returned (.string (BT (Lib.decDigits n))) ∧ Turn Nn w w' := by
  have hd : decide ((n : Int) < 10) = false := decide_eq_false (by omega)
  have hd0 : decide ((n : Int) < 0) = false := decide_eq_false (by omega)
  have hd1 : ¬ (n : Int) < 0 := by omega
  have hd2 : ¬ (n : Int) < 10 := by omega
  have hq : (n : Int).tdiv 10 = ((n / 10 : Nat) : Int) := by rw [Int.tdiv_eq_ediv_of_nonneg (by omega)]; omega
  have hr : (n : Int).tmod 10 = ((n % 10 : Nat) : Int) := by rw [Int.tmod_eq_emod_of_nonneg (by omega)]; omega
  have hr9 : n % 10 < 10 := by omega
  have hj : BT (Lib.decDigits (n / 10)) ++ (⟨#[UInt8.ofNat (48 + n % 10)]⟩ : ByteArray) = BT (Lib.decDigits n) := by
    rw [decDigits_big h]; unfold BT; apply ByteArray.ext; simp
  generalize hm : n % 10 = m at hr hr9 hj
  generalize hk : n / 10 = q at hq hj
  have hql : q < n := by omega
  have z0 : IntKind.i64.wrap (q : Int) = q := by rw [IntKind.wrap_i64]; omega
  have z1 : IntKind.i64.wrap (m : Int) = m := by rw [IntKind.wrap_i64]; omega
  have z2 : IntKind.u8.wrap (m : Int) = m := IntWalk.u8_in _ (by omega)
  have z3 : IntKind.u8.wrap (48 + (m : Int)) = 48 + m := IntWalk.u8_in _ (by omega)
  obtain ⟨D, hD⟩ : ∃ D : ByteArray, D = ⟨#[UInt8.ofNat (48 + m)]⟩ := ⟨_, rfl⟩
  rw [← hD] at hj
  have hs : ∀ W : World, (Op.stringOp .add (BT (Lib.decDigits q)) D).run Tryz.prog W = .ok (.string (BT (Lib.decDigits n))) W := fun W => by
    have h1 := dec_len (n := q) (by omega)
    rw [run_string_add_sum W _ _ (by rw [hD]; unfold BT; simp [ByteArray.size]; omega), hj]
  have HS := Lib.hid hs
  have HD := Lib.hid hD
  have IH := Lib.hid (ih q hql (by omega))
  clear hm hk hj hs hD ih
  go_enter Tryz.func76, Tryz.ntmps76
  go_upto_region 8 with (fail)
  refine held_begin (fun _ => True) (by kernel_rfl) ?_
  generalize hwd : World.drew w = wd
  have TD : Hid (Turn Nn w wd) := Lib.hid (by rw [← hwd]; exact (Turn.refl Nn w).drew)
  clear hwd
  refine held_take 0 ?_ rfl (by kernel_rfl) (by kernel_rfl) (by kernel_rfl) (fun _ _ _ h => h) (Or.inl ⟨by kernel_rfl, ?_⟩) trivial ?_
  rotate_left 1
  · intro u hu; clear hu; go_simp; first | done | with_reducible rfl
  try simp only [Act.put, nA, nB, nC, nD, nE, nF]
  refine held_take 1 ?_ rfl (by kernel_rfl) (by kernel_rfl) (by kernel_rfl) (fun _ _ _ h => h) (Or.inl ⟨by kernel_rfl, ?_⟩) trivial ?_
  rotate_left 1
  · intro u hu; clear hu; go_simp; first | done | with_reducible rfl
  try simp only [Act.put, nA, nB, nC, nD, nE, nF]
  refine held_take 3 ?_ rfl (by kernel_rfl) (by kernel_rfl) (by kernel_rfl) (fun _ _ _ h => h) (Or.inl ⟨by kernel_rfl, ?_⟩) trivial ?_
  rotate_left 1
  · intro u hu; clear hu; go_simp; first | done | with_reducible rfl
  try simp only [Act.put, nA, nB, nC, nD, nE, nF]
  refine held_take 4 ?_ rfl (by kernel_rfl) (by kernel_rfl) (by kernel_rfl) (fun _ _ _ h => h) (Or.inl ⟨by kernel_rfl, ?_⟩) trivial ?_
  rotate_left 1
  · intro u hu; clear hu; go_simp; first | done | with_reducible rfl
  try simp only [Act.put, nA, nB, nC, nD, nE, nF]
  refine held_take 5 ?_ rfl (by kernel_rfl) (by kernel_rfl) (by kernel_rfl) (fun _ _ _ h => h) (Or.inl ⟨by kernel_rfl, ?_⟩) trivial ?_
  rotate_left 1
  · intro u hu; clear hu; go_simp; first | done | with_reducible rfl
  try simp only [Act.put, nA, nB, nC, nD, nE, nF]
  refine held_take 6 ?_ rfl (by kernel_rfl) (by kernel_rfl) (by kernel_rfl) (fun _ _ _ h => h) (Or.inl ⟨by kernel_rfl, ?_⟩) trivial ?_
  rotate_left 1
  · intro u hu; clear hu; go_simp; first | done | with_reducible rfl
  try simp only [Act.put, nA, nB, nC, nD, nE, nF]
  refine held_pair 2 7 (by kernel_rfl) rfl rfl (by kernel_rfl) (by kernel_rfl) (fun K hK => ?_) (fun K hK => ?_)
  · go_simp
    refine (IH.out _).mono ?_
    rintro e w1 ⟨rfl, t⟩
    refine hK _ _ trivial ?_
    clear hK K
    have T := Lib.hid t
    clear t
    try simp only [Act.put, nA, nB, nC, nD, nE, nF]
    refine held_one 7 (by kernel_rfl) rfl (by kernel_rfl) (fun K hK => ?_)
    obtain ⟨b1, t1⟩ := alloc1 (w := w1) (a := .cells #[.int .u8 (48 + (m : Int))] 5) rfl
    have B := Lib.hid b1
    have TB := Lib.hid t1
    clear b1 t1
    go_simp
    refine hK _ _ trivial ?_
    clear hK K
    try simp only [Act.put, nA, nB, nC, nD, nE, nF]
    refine held_one 8 (by kernel_rfl) rfl (by kernel_rfl) (fun K hK => ?_)
    have hc := conv_one B.out
    rw [byteOf, ← HD.out] at hc
    go_simp
    refine hK _ _ trivial ?_
    clear hK K hc
    try simp only [Act.put, nA, nB, nC, nD, nE, nF]
    refine held_one 9 (by kernel_rfl) rfl (by kernel_rfl) (fun K hK => ?_)
    have hs := HS.out
    go_simp
    refine hK _ _ trivial ?_
    clear hK K hs
    try simp only [Act.put, nA, nB, nC, nD, nE, nF]
    refine held_one 10 (by kernel_rfl) rfl (by kernel_rfl) (fun K hK => ?_)
    go_simp
    refine hK _ _ trivial ?_
    clear hK K
    try simp only [Act.put, nA, nB, nC, nD, nE, nF]
    refine wpAnyH_done (by kernel_rfl) ?_ _
    go_wp2_with fail
    go_ret
    exact ⟨rfl, (TD.out.trans T.out).trans TB.out⟩
  · obtain ⟨b1, t1⟩ := alloc1 (w := wd) (a := .cells #[.int .u8 (48 + (m : Int))] 5) rfl
    have B := Lib.hid b1
    have TB := Lib.hid t1
    clear b1 t1
    go_simp
    refine hK _ _ trivial ?_
    clear hK K
    try simp only [Act.put, nA, nB, nC, nD, nE, nF]
    refine held_pair 2 8 (by kernel_rfl) rfl rfl (by kernel_rfl) (by kernel_rfl) (fun K hK => ?_) (fun K hK => ?_)
    · go_simp
      refine (IH.out _).mono ?_
      rintro e w1 ⟨rfl, t⟩
      refine hK _ _ trivial ?_
      clear hK K
      have T := Lib.hid t
      clear t
      try simp only [Act.put, nA, nB, nC, nD, nE, nF]
      refine held_one 8 (by kernel_rfl) rfl (by kernel_rfl) (fun K hK => ?_)
      have hc := conv_one ((T.out.block _ (heap_lt B.out) (fun h => h)).trans B.out)
      rw [byteOf, ← HD.out] at hc
      go_simp
      refine hK _ _ trivial ?_
      clear hK K hc
      try simp only [Act.put, nA, nB, nC, nD, nE, nF]
      refine held_one 9 (by kernel_rfl) rfl (by kernel_rfl) (fun K hK => ?_)
      have hs := HS.out
      go_simp
      refine hK _ _ trivial ?_
      clear hK K hs
      try simp only [Act.put, nA, nB, nC, nD, nE, nF]
      refine held_one 10 (by kernel_rfl) rfl (by kernel_rfl) (fun K hK => ?_)
      go_simp
      refine hK _ _ trivial ?_
      clear hK K
      try simp only [Act.put, nA, nB, nC, nD, nE, nF]
      refine wpAnyH_done (by kernel_rfl) ?_ _
      go_wp2_with fail
      go_ret
      exact ⟨rfl, (TD.out.trans TB.out).trans T.out⟩
    · have hc := conv_one B.out
      rw [byteOf, ← HD.out] at hc
      go_simp
      refine hK _ _ trivial ?_
      clear hK K hc
      try simp only [Act.put, nA, nB, nC, nD, nE, nF]
      refine held_one 2 (by kernel_rfl) rfl (by kernel_rfl) (fun K hK => ?_)
      go_simp
      refine (IH.out _).mono ?_
      rintro e w1 ⟨rfl, t⟩
      refine hK _ _ trivial ?_
      clear hK K
      have T := Lib.hid t
      clear t
      try simp only [Act.put, nA, nB, nC, nD, nE, nF]
      refine held_one 9 (by kernel_rfl) rfl (by kernel_rfl) (fun K hK => ?_)
      have hs := HS.out
      go_simp
      refine hK _ _ trivial ?_
      clear hK K hs
      try simp only [Act.put, nA, nB, nC, nD, nE, nF]
      refine held_one 10 (by kernel_rfl) rfl (by kernel_rfl) (fun K hK => ?_)
      go_simp
      refine hK _ _ trivial ?_
      clear hK K
      try simp only [Act.put, nA, nB, nC, nD, nE, nF]
      refine wpAnyH_done (by kernel_rfl) ?_ _
      go_wp2_with fail
      go_ret
      exact ⟨rfl, (TD.out.trans TB.out).trans T.out⟩
theorem whole_nat (n : Nat) : n < 9223372036854775808 → ∀ w, Calls Tryz.prog 76 #[.int .i64 (n : Int)] w fun e w' => e = .returned (.string (BT (Lib.decDigits n))) ∧ Turn Nn w w' := by
  induction n using Nat.strongRecOn with
  | _ n ih =>
    intro hn w
    by_cases h : n < 10
    · exact whole_small h w
    · exact whole_big h hn (fun m hm h2 w => ih m hm h2 w) w
set_option maxRecDepth 100000 in
set_option maxHeartbeats 4000000 in
theorem whole_neg {u : Nat} (h1 : 1 ≤ u) (h2 : u ≤ 9223372036854775808) (w : World) : Calls Tryz.prog 76 #[.int .i64 (-(u : Int))] w fun e w' => e = .returned (.string (BT (45 :: Lib.decDigits u))) ∧ Turn Nn w w' := by
  have hd0 : decide (-(u : Int) < 0) = true := decide_eq_true (by omega)
  have hd1 : -(u : Int) < 0 := by omega
  have hq : (-(u : Int)).tdiv 10 = -((u / 10 : Nat) : Int) := by rw [Int.neg_tdiv, Int.tdiv_eq_ediv_of_nonneg (by omega)]; omega
  have hr : (-(u : Int)).tmod 10 = -((u % 10 : Nat) : Int) := by rw [Int.neg_tmod, Int.tmod_eq_emod_of_nonneg (by omega)]; omega
  have hr9 : u % 10 < 10 := by omega
  have hjs : u < 10 → Lib.decDigits u = [UInt8.ofNat (48 + u % 10)] := fun h => by rw [decDigits_small h, Nat.mod_eq_of_lt h]
  have hjb : ¬ u < 10 → Lib.decDigits u = Lib.decDigits (u / 10) ++ [UInt8.ofNat (48 + u % 10)] := fun h => decDigits_big h
  have hql : u / 10 < 9223372036854775808 := by omega
  have hq0 : u < 10 ↔ u / 10 = 0 := by omega
  generalize hm : u % 10 = m at hr hr9 hjs hjb
  generalize hk : u / 10 = q at hq hjb hql hq0
  obtain ⟨z, hz⟩ : ∃ z : Int, -(u : Int) = z := ⟨_, rfl⟩
  rw [hz] at hd0 hd1 hq hr ⊢
  have z0 : IntKind.i64.wrap (-(q : Int)) = -(q : Int) := by rw [IntKind.wrap_i64]; omega
  have z00 : IntKind.i64.wrap (q : Int) = (q : Int) := by rw [IntKind.wrap_i64]; omega
  have z01 : IntKind.i64.wrap (- -(q : Int)) = (q : Int) := by rw [Int.neg_neg]; exact z00
  have z1 : IntKind.i64.wrap (-(m : Int)) = -(m : Int) := by rw [IntKind.wrap_i64]; omega
  have z11 : IntKind.i64.wrap (m : Int) = (m : Int) := by rw [IntKind.wrap_i64]; omega
  have z12 : IntKind.i64.wrap (- -(m : Int)) = (m : Int) := by rw [Int.neg_neg]; exact z11
  have z2 : IntKind.u8.wrap (m : Int) = m := IntWalk.u8_in _ (by omega)
  have z3 : IntKind.u8.wrap (48 + (m : Int)) = 48 + m := IntWalk.u8_in _ (by omega)
  obtain ⟨D, hD⟩ : ∃ D : ByteArray, D = ⟨#[UInt8.ofNat (48 + m)]⟩ := ⟨_, rfl⟩
  have hDB : D = BT [UInt8.ofNat (48 + m)] := hD
  have HD := Lib.hid hD
  have HMIN : ∀ W : World, Hid (W.alloc (.cells #[.int .u8 (48 + (m : Int))] 5) = W.alloc (.cells #[.int .u8 (48 + (m : Int))] 5)) := fun W => Lib.hid rfl
  by_cases hs : u < 10
  · have q0 : (q : Int) = 0 := by have := hq0.1 hs; omega
    have q00 : q = 0 := hq0.1 hs
    subst q00
    have hcat1 : ∀ W, (Op.stringOp .add ⟨#[45]⟩ ⟨#[]⟩).run Tryz.prog W = .ok (.string (BT [45])) W := fun W => cat_run (a := [45]) (b := []) (by simp) W
    have hcat2 : ∀ W, (Op.stringOp .add (BT [45]) D).run Tryz.prog W = .ok (.string (BT (45 :: Lib.decDigits u))) W := fun W => by
      rw [hDB, cat_run (by simp) W, hjs hs]
      rfl
    have hbq : ((-((0 : Nat) : Int)) == 0) = true := by decide
    obtain ⟨b1, t1⟩ := alloc1 (w := w) (a := .cells #[.int .u8 (48 + (m : Int))] 5) rfl
    have hc := conv_one b1
    rw [byteOf, ← hD] at hc
    have TB := Lib.hid t1
    clear hD hDB hjs hjb hq0 hm hk hz t1 b1
    go_enter Tryz.func76, Tryz.ntmps76
    go_wp2_with fail
    go_ret
    exact ⟨rfl, TB.out⟩
  · have q1 : 1 ≤ q := by
      rcases Nat.eq_zero_or_pos q with h | h
      · exact absurd (hq0.2 h) hs
      · exact h
    have hlq := dec_len hql
    have hcat1 : ∀ W, (Op.stringOp .add ⟨#[45]⟩ (BT (Lib.decDigits q))).run Tryz.prog W = .ok (.string (BT (45 :: Lib.decDigits q))) W := fun W => cat_run (a := [45]) (by simp; omega) W
    have hcat2 : ∀ W, (Op.stringOp .add (BT (45 :: Lib.decDigits q)) D).run Tryz.prog W = .ok (.string (BT (45 :: Lib.decDigits u))) W := fun W => by
      rw [hDB, cat_run (by simp; omega) W, hjb hs]
      rfl
    have hbq : ((-(q : Int)) == 0) = false := by simp; omega
    have hbq2 : ¬ (-(q : Int)) = 0 := by omega
    have hbq3 : ¬ (q : Int) = 0 := by omega
    have hbq4 : ¬ q = 0 := by omega
    have HQ := Lib.hid (whole_nat q hql)
    clear hDB hjs hjb hq0 hm hk hz hlq
    go_enter Tryz.func76, Tryz.ntmps76
    go_wp2_with fail
    refine (HQ.out _).mono ?_
    rintro e w1 ⟨rfl, t⟩
    have T1 := Lib.hid t
    clear t
    obtain ⟨b1, t1⟩ := alloc1 (w := w1) (a := .cells #[.int .u8 (48 + (m : Int))] 5) rfl
    have hc := conv_one b1
    rw [byteOf, ← HD.out] at hc
    have TB := Lib.hid t1
    clear t1 b1 hD
    go_wp2_with fail
    go_ret
    exact ⟨rfl, T1.out.trans TB.out⟩
theorem rwhole_any {v : Int} (h : Int64 v) (w : World) : Calls Tryz.prog 76 #[.int .i64 v] w fun e w' => e = .returned (.string (BT (itoa v))) ∧ Turn Nn w w' := by
  unfold Int64 at h
  by_cases h0 : 0 ≤ v
  · obtain ⟨n, rfl⟩ : ∃ n : Nat, v = n := ⟨v.toNat, by omega⟩
    rw [itoa_nat]
    exact whole_nat n (by omega) w
  · obtain ⟨u, rfl⟩ : ∃ u : Nat, v = -(u : Int) := ⟨(-v).toNat, by omega⟩
    rw [itoa_neg u (by omega)]
    exact whole_neg (by omega) (by omega) w
end
section
open Go.RowKit Go.Shelf Go.Lib

theorem valU_bad {l : Bs} {k m : Nat} (h : k < l.length) (h0 : valU 0 (l.take k) = some m) (hc : ¬ (48 ≤ l[k].toNat ∧ l[k].toNat ≤ 57)) : valU 0 l = none := by
  have e : l = l.take k ++ l[k] :: l.drop (k + 1) := by rw [← List.drop_eq_getElem_cons h, List.take_append_drop]
  rw [e, valU_append, h0, Option.bind_some, valU, if_neg hc]
theorem valU_good {l : Bs} {k m : Nat} (h : k < l.length) (h0 : valU 0 (l.take k) = some m) (hc : 48 ≤ l[k].toNat ∧ l[k].toNat ≤ 57) : valU 0 (l.take (k + 1)) = some ((10 * m + (l[k].toNat - 48)) % 18446744073709551616) := by
  rw [List.take_add_one, List.getElem?_eq_getElem h, Option.toList_some, valU_append, h0, Option.bind_some, valU, if_pos hc]
  rfl
def ReadsP (w : World) (v : Int) (e : Ending) (w' : World) : Prop := (∃ b, e = .returned (.tuple #[.int .i64 v, .bool b])) ∧ Turn Nn w w'
theorem reads_mk {w w' : World} {v : Int} {b : Bool} (t : Turn Nn w w') : ReadsP w v (.returned (.tuple #[.int .i64 v, .bool b])) w' := ⟨⟨b, rfl⟩, t⟩
set_option maxRecDepth 100000 in
set_option maxHeartbeats 8000000 in
theorem refWhole_neg {d : Bs} (hl : d.length ≤ 4000000) (w : World) : Calls Tryz.prog 53 #[.string (BT (45 :: d))] w (ReadsP w (refDig d true)) := by
  obtain ⟨M, hM⟩ : ∃ M, BT (45 :: d) = M := ⟨_, rfl⟩
  have hi0 : ∀ w, (Instr.index 9 (.string M) (.int .i64 0)).run Tryz.prog w = .ok (.int .u8 45) w := fun w => by
    rw [← hM]
    exact BT_at (s := 45 :: d) (k := 0) (by simp) w
  have hMs : M.size = d.length + 1 := by rw [← hM, BT_size]; rfl
  obtain ⟨D, hD⟩ : ∃ D, BT d = D := ⟨_, rfl⟩
  have hx : M.extract 1 M.size = D := by rw [← hM, ← hD]; exact BT_ext_drop (l := 45 :: d) (k := 1) (by simp)
  have hDs : D.size = d.length := by rw [← hD, BT_size]
  have HD := Lib.hid hD
  have HDS := Lib.hid hDs
  have HV := Lib.hid hMs
  have hMp : 0 < M.size := by omega
  have hMp1 : (1 : Int) ≤ (M.size : Int) := by omega
  have hMp2 : 1 ≤ M.size := by omega
  have hDl : D.size ≤ 4000000 := by omega
  rw [hM]
  clear hM hD hMs hl
  go_enter Tryz.func53, Tryz.ntmps53
  by_cases hlen : d.length < 1 ∨ 19 < d.length
  · have hv : refDig d true = 0 := by unfold refDig; rw [if_pos hlen]
    rw [hv]
    by_cases h1 : D.size < 1
    · clear HV
      go_wp2_with fail
      all_goals go_ret2
      all_goals exact reads_mk (Turn.refl _ _)
    · have h2 : 19 < D.size := by omega
      clear HV
      go_wp2_with fail
      go_ret2
      exact reads_mk (Turn.refl _ _)
  have h1 : ¬ D.size < 1 := by omega
  have h2 : ¬ 19 < D.size := by omega
  have HLEN := Lib.hid hlen
  obtain ⟨R, hR⟩ : ∃ R, refDig d true = R := ⟨_, rfl⟩
  have HR := Lib.hid hR
  rw [hR]
  clear hlen hR
  go_wp2_with fail
  clear h1 h2
  go_loop [6, 7] (fun n i => ∃ k m : Nat, k ≤ D.size ∧ i = .int .i64 k ∧ n = .int .u64 m ∧ m < 18446744073709551616 ∧ valU 0 (d.take k) = some m) (fun _ i => D.size - (intOf i).toNat)
  case atStart => exact ⟨0, 0, by omega, rfl, rfl, by decide, rfl⟩
  case round =>
    obtain ⟨k, m, hk, rfl, rfl, hm, hv⟩ := hrel
    by_cases hlt : k < D.size
    · have hkl : k < d.length := by rw [← HDS.out]; exact hlt
      have hB := fun h => valU_bad hkl hv h
      have hG := fun h => valU_good hkl hv h
      obtain ⟨c, hd⟩ : ∃ c, d[k] = c := ⟨_, rfl⟩
      have hiS : ∀ w, (Instr.index 9 (.string D) (.int .i64 k)).run Tryz.prog w = .ok (.int .u8 (c.toNat : Int)) w := fun w => by
        rw [← HD.out, ← hd]; exact BT_at hkl w
      rw [hd] at hB hG
      have hcl := c.toNat_lt
      by_cases hdd : 48 ≤ c.toNat ∧ c.toNat ≤ 57
      · have HG := Lib.hid (hG hdd)
        have hsub : ((c.toNat : Int) - 48) = ((c.toNat - 48 : Nat) : Int) := by omega
        obtain ⟨e, he⟩ : ∃ e : Nat, c.toNat - 48 = e := ⟨_, rfl⟩
        rw [he] at HG hsub
        have hel : e ≤ 9 := by omega
        obtain ⟨pq, hp⟩ : ∃ p : Nat, 10 * m % 18446744073709551616 = p := ⟨_, rfl⟩
        obtain ⟨r, hr⟩ : ∃ r : Nat, (10 * m + e) % 18446744073709551616 = r := ⟨_, rfl⟩
        rw [hr] at HG
        have u1 : IntKind.u64.wrap (10 * (m : Int)) = (pq : Int) := by rw [IntKind.wrap_u64]; omega
        have u2 : IntKind.u64.wrap ((pq : Int) + (e : Int)) = (r : Int) := by rw [IntKind.wrap_u64]; omega
        have u3 : IntKind.u64.wrap (e : Int) = (e : Int) := by rw [IntKind.wrap_u64]; omega
        have u4 : IntKind.u8.wrap (e : Int) = (e : Int) := IntWalk.u8_in _ (by omega)
        have hdI1 : ¬ (c.toNat : Int) < 48 := by omega
        have hdI2 : ¬ (57 : Int) < (c.toNat : Int) := by omega
        have hrl : r < 18446744073709551616 := by omega
        have HRL := Lib.hid hrl
        clear hB hG hd hv hkl hm hdd he hp hr hrl
        go_wp2_with fail
        go_round
        case rel => exact ⟨k + 1, r, by omega, by go_num, rfl, HRL.out, HG.out⟩
        case measure => simp [intOf]; omega
      · have hN := hB hdd
        have hv0 : R = 0 := by
          rw [← HR.out]
          unfold refDig
          rw [if_neg HLEN.out, hN]
        subst hv0
        clear hB hG hd hv hkl hm hN
        by_cases h48 : c.toNat < 48
        · have hdI1 : (c.toNat : Int) < 48 := by omega
          go_wp2_with fail
          go_ret2
          exact reads_mk (Turn.refl _ _)
        · have hdI1 : ¬ (c.toNat : Int) < 48 := by omega
          have hdI2 : (57 : Int) < (c.toNat : Int) := by omega
          go_wp2_with fail
          go_ret2
          exact reads_mk (Turn.refl _ _)
    · have hkl : d.take k = d := List.take_of_length_le (by rw [← HDS.out]; omega)
      rw [hkl] at hv
      have hi := i64_int m hm
      have hRv : R = neg64 (i64 m) := by
        rw [← HR.out]
        unfold refDig
        rw [if_neg HLEN.out, hv]
        rfl
      have c1 : IntKind.i64.wrap (m : Int) = i64 m := by unfold i64; rw [IntKind.wrap_i64]; split <;> omega
      have c2 : IntKind.i64.wrap (-(i64 m)) = neg64 (i64 m) := by
        unfold Int64 at hi
        unfold neg64
        rw [IntKind.wrap_i64]
        split <;> omega
      have HI : Hid (Int64 R) := Lib.hid (by rw [hRv]; exact neg64_int hi)
      have HRV := Lib.hid hRv
      clear hv hkl hm hi hRv
      generalize i64 m = z at c1 c2 HRV
      go_wp2_with fail
      rw [← HRV.out]
      refine (rwhole_any HI.out _).mono ?_
      rintro e w1 ⟨rfl, t⟩
      have T1 := Lib.hid t
      clear t c1 c2
      go_wp2_with fail
      go_ret2
      exact reads_mk T1.out
set_option maxRecDepth 100000 in
set_option maxHeartbeats 8000000 in
theorem refWhole_pos {d : Bs} (hl : d.length ≤ 4000000) (hc : d.head? ≠ some 45) (w : World) : Calls Tryz.prog 53 #[.string (BT d)] w (ReadsP w (refDig d false)) := by
  by_cases he : d = []
  · subst he
    have hv : refDig [] false = 0 := rfl
    rw [hv]
    go_enter Tryz.func53, Tryz.ntmps53
    go_wp2_with fail
    go_ret2
    exact reads_mk (Turn.refl _ _)
  have hp : 0 < d.length := List.length_pos_iff.2 he
  obtain ⟨c0, hc0⟩ : ∃ c, d[0] = c := ⟨_, rfl⟩
  have hne : ((c0.toNat : Int) == 45) = false := by
    have h1 : c0 ≠ 45 := fun h => hc (by rw [List.head?_eq_getElem?, List.getElem?_eq_getElem hp, hc0, h])
    have h2 : c0.toNat ≠ 45 := fun h => h1 (UInt8.toNat_inj.1 h)
    simp
    try omega
  obtain ⟨D, hD⟩ : ∃ D, BT d = D := ⟨_, rfl⟩
  have hi0 : ∀ w, (Instr.index 9 (.string D) (.int .i64 0)).run Tryz.prog w = .ok (.int .u8 (c0.toNat : Int)) w := fun w => by
    rw [← hD, ← hc0]
    exact BT_at (s := d) (k := 0) hp w
  have hDs : D.size = d.length := by rw [← hD, BT_size]
  have HD := Lib.hid hD
  have HDS := Lib.hid hDs
  have HV := Lib.hid hDs
  have hMp : 0 < D.size := by omega
  have hDl : D.size ≤ 4000000 := by omega
  rw [hD]
  clear hD hl hc he hc0 hp
  go_enter Tryz.func53, Tryz.ntmps53
  by_cases hlen : d.length < 1 ∨ 19 < d.length
  · have hv : refDig d false = 0 := by unfold refDig; rw [if_pos hlen]
    rw [hv]
    by_cases h1 : D.size < 1
    · clear HV
      go_wp2_with fail
      all_goals go_ret2
      all_goals exact reads_mk (Turn.refl _ _)
    · have h2 : 19 < D.size := by omega
      clear HV
      go_wp2_with fail
      go_ret2
      exact reads_mk (Turn.refl _ _)
  have h1 : ¬ D.size < 1 := by omega
  have h2 : ¬ 19 < D.size := by omega
  have HLEN := Lib.hid hlen
  obtain ⟨R, hR⟩ : ∃ R, refDig d false = R := ⟨_, rfl⟩
  have HR := Lib.hid hR
  rw [hR]
  clear hlen hR
  go_wp2_with fail
  clear h1 h2
  go_loop [6, 7] (fun n i => ∃ k m : Nat, k ≤ D.size ∧ i = .int .i64 k ∧ n = .int .u64 m ∧ m < 18446744073709551616 ∧ valU 0 (d.take k) = some m) (fun _ i => D.size - (intOf i).toNat)
  case atStart => exact ⟨0, 0, by omega, rfl, rfl, by decide, rfl⟩
  case round =>
    obtain ⟨k, m, hk, rfl, rfl, hm, hv⟩ := hrel
    by_cases hlt : k < D.size
    · have hkl : k < d.length := by rw [← HDS.out]; exact hlt
      have hB := fun h => valU_bad hkl hv h
      have hG := fun h => valU_good hkl hv h
      obtain ⟨c, hd⟩ : ∃ c, d[k] = c := ⟨_, rfl⟩
      have hiS : ∀ w, (Instr.index 9 (.string D) (.int .i64 k)).run Tryz.prog w = .ok (.int .u8 (c.toNat : Int)) w := fun w => by
        rw [← HD.out, ← hd]; exact BT_at hkl w
      rw [hd] at hB hG
      have hcl := c.toNat_lt
      by_cases hdd : 48 ≤ c.toNat ∧ c.toNat ≤ 57
      · have HG := Lib.hid (hG hdd)
        have hsub : ((c.toNat : Int) - 48) = ((c.toNat - 48 : Nat) : Int) := by omega
        obtain ⟨e, he⟩ : ∃ e : Nat, c.toNat - 48 = e := ⟨_, rfl⟩
        rw [he] at HG hsub
        have hel : e ≤ 9 := by omega
        obtain ⟨pq, hp⟩ : ∃ p : Nat, 10 * m % 18446744073709551616 = p := ⟨_, rfl⟩
        obtain ⟨r, hr⟩ : ∃ r : Nat, (10 * m + e) % 18446744073709551616 = r := ⟨_, rfl⟩
        rw [hr] at HG
        have u1 : IntKind.u64.wrap (10 * (m : Int)) = (pq : Int) := by rw [IntKind.wrap_u64]; omega
        have u2 : IntKind.u64.wrap ((pq : Int) + (e : Int)) = (r : Int) := by rw [IntKind.wrap_u64]; omega
        have u3 : IntKind.u64.wrap (e : Int) = (e : Int) := by rw [IntKind.wrap_u64]; omega
        have u4 : IntKind.u8.wrap (e : Int) = (e : Int) := IntWalk.u8_in _ (by omega)
        have hdI1 : ¬ (c.toNat : Int) < 48 := by omega
        have hdI2 : ¬ (57 : Int) < (c.toNat : Int) := by omega
        have hrl : r < 18446744073709551616 := by omega
        have HRL := Lib.hid hrl
        clear hB hG hd hv hkl hm hdd he hp hr hrl
        go_wp2_with fail
        go_round
        case rel => exact ⟨k + 1, r, by omega, by go_num, rfl, HRL.out, HG.out⟩
        case measure => simp [intOf]; omega
      · have hN := hB hdd
        have hv0 : R = 0 := by
          rw [← HR.out]
          unfold refDig
          rw [if_neg HLEN.out, hN]
        subst hv0
        clear hB hG hd hv hkl hm hN
        by_cases h48 : c.toNat < 48
        · have hdI1 : (c.toNat : Int) < 48 := by omega
          go_wp2_with fail
          go_ret2
          exact reads_mk (Turn.refl _ _)
        · have hdI1 : ¬ (c.toNat : Int) < 48 := by omega
          have hdI2 : (57 : Int) < (c.toNat : Int) := by omega
          go_wp2_with fail
          go_ret2
          exact reads_mk (Turn.refl _ _)
    · have hkl : d.take k = d := List.take_of_length_le (by rw [← HDS.out]; omega)
      rw [hkl] at hv
      have hi := i64_int m hm
      have hRv : R = i64 m := by
        rw [← HR.out]
        unfold refDig
        rw [if_neg HLEN.out, hv]
        rfl
      have c1 : IntKind.i64.wrap (m : Int) = i64 m := by unfold i64; rw [IntKind.wrap_i64]; split <;> omega
      have c2 : IntKind.i64.wrap (-(i64 m)) = neg64 (i64 m) := by
        unfold Int64 at hi
        unfold neg64
        rw [IntKind.wrap_i64]
        split <;> omega
      have HI : Hid (Int64 R) := Lib.hid (by rw [hRv]; exact hi)
      have HRV := Lib.hid hRv
      clear hv hkl hm hi hRv
      generalize i64 m = z at c1 c2 HRV
      go_wp2_with fail
      rw [← HRV.out]
      refine (rwhole_any HI.out _).mono ?_
      rintro e w1 ⟨rfl, t⟩
      have T1 := Lib.hid t
      clear t c1 c2
      go_wp2_with fail
      go_ret2
      exact reads_mk T1.out
theorem refWhole_any {s : Bs} (hl : s.length ≤ 4000000) (w : World) : Calls Tryz.prog 53 #[.string (BT s)] w (ReadsP w (refWholeV s)) := by
  unfold refWholeV
  by_cases h : s.head? = some 45
  · rw [if_pos h]
    cases s with
    | nil => simp at h
    | cons c r =>
      simp at h
      subst h
      exact refWhole_neg (by simp at hl; omega) w
  · rw [if_neg h]
    exact refWhole_pos hl h w
end
section
open Go.RowKit Go.Shelf Go.Lib

theorem kind_step {w : Bs} {k : Nat} (h : k < 10) : kindIx w (kindsL.drop k) k = if kindsL[k]?.getD [] = w then (k : Int) else kindIx w (kindsL.drop (k + 1)) (k + 1) := by
  have hl : k < kindsL.length := h
  rw [List.drop_eq_getElem_cons hl, kindIx, List.getElem?_eq_getElem hl]
  rfl
set_option maxRecDepth 100000 in
set_option maxHeartbeats 8000000 in
theorem kind_any (s : Bs) (w : World) : Calls Tryz.prog 54 #[.string (BT s)] w fun e w' => e = .returned (.int .i64 (kindOf s)) ∧ Turn Nn w w' := by
  obtain ⟨w1, e1⟩ : ∃ x, w.alloc (.cells #[.string ⟨#[105, 100, 108, 101]⟩, .string ⟨#[115, 105, 108, 101, 110, 116]⟩, .string ⟨#[115, 101, 110, 116]⟩, .string ⟨#[103, 111, 116]⟩, .string ⟨#[111, 117, 116]⟩, .string ⟨#[109, 97, 100, 101]⟩, .string ⟨#[115, 112, 97, 119, 110, 101, 100]⟩, .string ⟨#[99, 108, 111, 115, 101, 100]⟩, .string ⟨#[104, 97, 108, 116, 101, 100]⟩, .string ⟨#[116, 114, 97, 112]⟩] 9) = x := ⟨_, rfl⟩
  obtain ⟨b1, t1⟩ := alloc1 e1
  obtain ⟨q, hq⟩ : ∃ q, w.heap.size = q := ⟨_, rfl⟩
  rw [hq] at b1
  have C : Hid (∀ k : Nat, k < 10 → w1.cell? ⟨q, k, none⟩ = some (.string (BT (kindsL[k]?.getD [])))) := Lib.hid (by
    intro k hk
    have hk2 : k = 0 ∨ k = 1 ∨ k = 2 ∨ k = 3 ∨ k = 4 ∨ k = 5 ∨ k = 6 ∨ k = 7 ∨ k = 8 ∨ k = 9 := by omega
    rcases hk2 with rfl | rfl | rfl | rfl | rfl | rfl | rfl | rfl | rfl | rfl
    all_goals exact cell_blk b1)
  have T1 := Lib.hid t1
  obtain ⟨R, hR⟩ : ∃ R, kindOf s = R := ⟨_, rfl⟩
  have HR : Hid (kindIx s (kindsL.drop 0) 0 = R) := Lib.hid hR
  rw [hR]
  have HQ : Hid (∀ k : Nat, ((BT (kindsL[k]?.getD [])).toList == (BT s).toList) = decide (kindsL[k]?.getD [] = s)) := Lib.hid (fun k => beq_dec2 _ _)
  obtain ⟨S, hS⟩ : ∃ S, BT s = S := ⟨_, rfl⟩
  rw [hS] at HQ ⊢
  clear hR hS t1 b1
  go_enter Tryz.func54, Tryz.ntmps54
  go_wp2_with fail
  clear e1 hq
  go_loop [4] (fun i => ∃ k : Nat, k ≤ 10 ∧ i = .int .i64 k ∧ kindIx s (kindsL.drop k) k = R) (fun i => 10 - (intOf i).toNat)
  case atStart => exact ⟨0, by omega, rfl, HR.out⟩
  case round =>
    obtain ⟨k, hk, rfl, hv⟩ := hrel
    by_cases hlt : k < 10
    · have hltI : (k : Int) < 10 := by omega
      have y := C.out k hlt
      have hq := HQ.out k
      rw [kind_step hlt] at hv
      obtain ⟨d, hd⟩ : ∃ d, decide (kindsL[k]?.getD [] = s) = d := ⟨_, rfl⟩
      rw [hd] at hq
      cases d with
      | true =>
        rw [if_pos (of_decide_eq_true hd)] at hv
        subst hv
        clear hd
        generalize BT (kindsL[k]?.getD []) = X at y hq
        go_wp2_with fail
        go_ret
        exact ⟨rfl, T1.out⟩
      | false =>
        rw [if_neg (of_decide_eq_false hd)] at hv
        have HV := Lib.hid hv
        clear hd hv
        generalize BT (kindsL[k]?.getD []) = X at y hq
        go_wp2_with fail
        go_round
        case rel => exact ⟨k + 1, by omega, by go_num, HV.out⟩
        case measure => simp [intOf]; omega
    · obtain rfl : k = 10 := by omega
      have hv2 : (-1 : Int) = R := hv
      subst hv2
      clear hv
      go_wp2_with fail
      go_ret
      exact ⟨rfl, T1.out⟩
theorem byteS (i : Int) : (⟨#[UInt8.ofNat (IntKind.u8.wrap (48 + IntKind.u8.wrap i)).toNat]⟩ : ByteArray) = BT [sideB i] := by
  have h : UInt8.ofNat (IntKind.u8.wrap (48 + IntKind.u8.wrap i)).toNat = sideB i := by
    unfold sideB
    apply UInt8.toNat_inj.1
    have e1 : IntKind.u8.wrap i = i % 256 := by simp [IntKind.wrap, IntKind.bits, IntKind.signed]
    have e2 : ∀ z : Int, IntKind.u8.wrap z = z % 256 := fun z => by simp [IntKind.wrap, IntKind.bits, IntKind.signed]
    rw [e2, e1, UInt8.toNat_ofNat', UInt8.toNat_ofNat']
    have : (2 : Nat) ^ 8 = 256 := rfl
    rw [this]
    omega
  rw [h]; rfl
set_option maxRecDepth 100000 in
set_option maxHeartbeats 8000000 in
theorem end_any2 {E : EventD} (hc : E.chan.length ≤ 1100000) (w : World) : Calls Tryz.prog 77 #[.agg (evC E)] w fun e w' => e = .returned (.string (BT (endT E))) ∧ Turn Nn w w' := by
  obtain ⟨w1, e1⟩ : ∃ x, w.alloc (.cells (evC E) 34) = x := ⟨_, rfl⟩
  obtain ⟨b1, t1⟩ := alloc1 e1
  obtain ⟨q, hq⟩ : ∃ q, w.heap.size = q := ⟨_, rfl⟩
  rw [hq] at b1
  have y4 : w1.cell? ⟨q, 4, none⟩ = some (.string (BT E.chan)) := cell_blk b1
  have y5 : w1.cell? ⟨q, 5, none⟩ = some (.int .i64 E.side) := cell_blk b1
  have T1 := Lib.hid t1
  have hcat1 : ∀ W, (Op.stringOp .add (BT E.chan) ⟨#[58]⟩).run Tryz.prog W = .ok (.string (BT (E.chan ++ [58]))) W := fun W => cat_run (b := [58]) (by simp; omega) W
  have hcat2 : ∀ W, (Op.stringOp .add (BT (E.chan ++ [58])) (BT [sideB E.side])).run Tryz.prog W = .ok (.string (BT (endT E))) W := fun W => by
    rw [cat_run (by simp; omega) W]
    unfold endT
    simp
  obtain ⟨z1, hz1⟩ : ∃ z, IntKind.u8.wrap E.side = z := ⟨_, rfl⟩
  obtain ⟨z2, hz2⟩ : ∃ z, IntKind.u8.wrap (48 + z1) = z := ⟨_, rfl⟩
  obtain ⟨b2, t2⟩ := alloc1 (w := w1) (a := .cells #[.int .u8 z2] 5) rfl
  have hcv := conv_one b2
  rw [← hz2, ← hz1, byteS, hz1, hz2] at hcv
  have T2 := Lib.hid t2
  unfold evC at e1 ⊢
  clear b1 t1 b2 t2 hc
  go_enter Tryz.func77, Tryz.ntmps77
  go_wp2_with fail
  go_ret
  exact ⟨rfl, T1.out.trans T2.out⟩
theorem end3 (l : Bs) : ∃ c d, endA l = #[.string c, .int .i64 d, .bool (endL l).isSome] := by
  unfold endA
  split
  · rename_i c n h; exact ⟨_, _, by rw [h]; rfl⟩
  · rename_i h; exact ⟨_, _, by rw [h]; rfl⟩
set_option maxRecDepth 100000 in
set_option maxHeartbeats 8000000 in
theorem msg0 {E : EventD} (hi : Int64 E.word) (hn : E.name.length ≤ 1100000) (ht : E.tag = 0) (w : World) : Calls Tryz.prog 78 #[.agg (evC E)] w fun e w' => e = .returned (.tuple #[.string (BT (wWord ++ 32 :: itoa E.word)), .bool true]) ∧ Turn Nn w w' := by
  obtain ⟨w1, e1⟩ : ∃ x, w.alloc (.cells (evC E) 34) = x := ⟨_, rfl⟩
  obtain ⟨b1, t1⟩ := alloc1 e1
  obtain ⟨q, hq⟩ : ∃ q, w.heap.size = q := ⟨_, rfl⟩
  rw [hq] at b1
  have B1 := Lib.hid b1
  have y6 : w1.cell? ⟨q, 6, none⟩ = some (.int .i64 E.tag) := cell_blk b1
  have y7 : w1.cell? ⟨q, 7, none⟩ = some (.int .i64 E.word) := cell_blk b1
  have y8 : w1.cell? ⟨q, 8, none⟩ = some (.string (BT E.name)) := cell_blk b1
  have T1 := Lib.hid t1
  have HW := Lib.hid (rwhole_any hi)
  have hil := itoa_len hi
  have hcat : ∀ W, (Op.stringOp .add ⟨#[119, 111, 114, 100, 32]⟩ (BT (itoa E.word))).run Tryz.prog W = .ok (.string (BT (wWord ++ 32 :: itoa E.word))) W := fun W => cat_run (a := [119, 111, 114, 100, 32]) (by simp; omega) W
  rw [ht] at y6
  unfold evC at e1 ⊢
  rw [ht] at e1 ⊢
  clear b1 t1 hn hi hil
  go_enter Tryz.func78, Tryz.ntmps78
  go_wp2_with fail
  refine (HW.out _).mono ?_
  rintro e w2 ⟨rfl, t⟩
  have T2 := Lib.hid (T1.out.trans t)
  clear t
  go_wp2_with fail
  go_ret2
  exact ⟨rfl, T2.out⟩
set_option maxRecDepth 100000 in
set_option maxHeartbeats 8000000 in
theorem msg1_neg {E : EventD} (hi : Int64 E.word) (hn : E.name.length ≤ 1100000) (ht : E.tag = 1) (h0 : E.word < 0) (w : World) : Calls Tryz.prog 78 #[.agg (evC E)] w fun e w' => e = .returned (.tuple #[.string (BT (wLabel ++ 32 :: itoa E.word)), .bool false]) ∧ Turn Nn w w' := by
  obtain ⟨w1, e1⟩ : ∃ x, w.alloc (.cells (evC E) 34) = x := ⟨_, rfl⟩
  obtain ⟨b1, t1⟩ := alloc1 e1
  obtain ⟨q, hq⟩ : ∃ q, w.heap.size = q := ⟨_, rfl⟩
  rw [hq] at b1
  have B1 := Lib.hid b1
  have y6 : w1.cell? ⟨q, 6, none⟩ = some (.int .i64 E.tag) := cell_blk b1
  have y7 : w1.cell? ⟨q, 7, none⟩ = some (.int .i64 E.word) := cell_blk b1
  have y8 : w1.cell? ⟨q, 8, none⟩ = some (.string (BT E.name)) := cell_blk b1
  have T1 := Lib.hid t1
  have HW := Lib.hid (rwhole_any hi)
  have hil := itoa_len hi
  have hcat : ∀ W, (Op.stringOp .add ⟨#[108, 97, 98, 101, 108, 32]⟩ (BT (itoa E.word))).run Tryz.prog W = .ok (.string (BT (wLabel ++ 32 :: itoa E.word))) W := fun W => cat_run (a := [108, 97, 98, 101, 108, 32]) (by simp; omega) W
  rw [ht] at y6
  have HCAT := Lib.hid hcat
  have h1 : ¬ 0 ≤ E.word := by omega
  have h2 : ¬ E.word ≥ 0 := by omega
  unfold evC at e1 ⊢
  rw [ht] at e1 ⊢
  clear b1 t1 hn hi hil hcat
  go_enter Tryz.func78, Tryz.ntmps78
  go_upto_region 5 with (fail)
  refine held_begin (fun u => u.cell? ⟨q, 7, none⟩ = some (.int .i64 E.word)) (by kernel_rfl) ?_
  have U0 : Hid (Turn Nn w w1.drew) := Lib.hid T1.out.drew
  have C0 : Hid (World.cell? w1.drew ⟨q, 7, none⟩ = some (.int .i64 E.word)) := Lib.hid (cell_turn (Turn.refl Nn w1).drew y7)
  generalize World.drew w1 = ws at U0 C0 ⊢
  refine held_take 0 ?_ rfl (by kernel_rfl) (by kernel_rfl) (by kernel_rfl) (fun _ _ _ h => h) (Or.inl ⟨by kernel_rfl, ?_⟩) C0.out ?_
  rotate_left 1
  · intro u hu; go_simp; first | done | with_reducible rfl
  try simp only [Act.put, nA, nB, nC, nD, nE, nF]
  refine held_take 1 ?_ rfl (by kernel_rfl) (by kernel_rfl) (by kernel_rfl) (fun _ _ _ h => h) (Or.inl ⟨by kernel_rfl, ?_⟩) C0.out ?_
  rotate_left 1
  · intro u hu; go_simp; first | done | with_reducible rfl
  try simp only [Act.put, nA, nB, nC, nD, nE, nF]
  refine held_take 4 ?_ rfl (by kernel_rfl) (by kernel_rfl) (by kernel_rfl) (fun _ _ _ h => h) (Or.inl ⟨by kernel_rfl, ?_⟩) C0.out ?_
  rotate_left 1
  · intro u hu; go_simp; first | done | with_reducible rfl
  try simp only [Act.put, nA, nB, nC, nD, nE, nF]
  refine held_take 5 ?_ rfl (by kernel_rfl) (by kernel_rfl) (by kernel_rfl) (fun _ _ _ h => h) (Or.inl ⟨by kernel_rfl, ?_⟩) C0.out ?_
  rotate_left 1
  · intro u hu; go_simp; first | done | with_reducible rfl
  try simp only [Act.put, nA, nB, nC, nD, nE, nF]
  refine held_take 6 ?_ rfl (by kernel_rfl) (by kernel_rfl) (by kernel_rfl) (fun _ _ _ h => h) (Or.inl ⟨by kernel_rfl, ?_⟩) C0.out ?_
  rotate_left 1
  · intro u hu; go_simp; first | done | with_reducible rfl
  try simp only [Act.put, nA, nB, nC, nD, nE, nF]
  refine held_call 2 (by kernel_rfl) rfl (by kernel_rfl) (by first | rfl | go_simp) (HW.out _) ?_ (fun c u h => by cases h.1) (fun u h => by cases h.1)
  rintro v2 u ⟨he, t⟩
  cases he
  have U1 := Lib.hid (U0.out.trans t)
  have C1 := Lib.hid (cell_turn t C0.out)
  clear t
  refine ⟨C1.out, ?_⟩
  try simp only [Act.put, nA, nB, nC, nD, nE, nF]
  have hcat := HCAT.out
  refine held_take 3 ?_ rfl (by kernel_rfl) (by kernel_rfl) (by kernel_rfl) (fun _ _ _ h => h) (Or.inl ⟨by kernel_rfl, ?_⟩) C1.out ?_
  rotate_left 1
  · intro u hu; go_simp; first | done | with_reducible rfl
  try simp only [Act.put, nA, nB, nC, nD, nE, nF]
  clear hcat
  refine held_take 7 ?_ rfl (by kernel_rfl) (by kernel_rfl) (by kernel_rfl) (fun _ _ _ h => h) (Or.inl ⟨by kernel_rfl, ?_⟩) C1.out ?_
  rotate_left 1
  · intro u hu; go_simp; first | done | with_reducible rfl
  try simp only [Act.put, nA, nB, nC, nD, nE, nF]
  refine held_take 8 undef rfl (by kernel_rfl) (by kernel_rfl) (by kernel_rfl) (fun _ _ _ h => h) (Or.inr ⟨by kernel_rfl, rfl⟩) C1.out ?_
  try simp only [Act.put, nA, nB, nC, nD, nE, nF]
  refine held_take 9 undef rfl (by kernel_rfl) (by kernel_rfl) (by kernel_rfl) (fun _ _ _ h => h) (Or.inr ⟨by kernel_rfl, rfl⟩) C1.out ?_
  try simp only [Act.put, nA, nB, nC, nD, nE, nF]
  refine held_take 10 undef rfl (by kernel_rfl) (by kernel_rfl) (by kernel_rfl) (fun _ _ _ h => h) (Or.inr ⟨by kernel_rfl, rfl⟩) C1.out ?_
  try simp only [Act.put, nA, nB, nC, nD, nE, nF]
  refine held_take 11 ?_ rfl (by kernel_rfl) (by kernel_rfl) (by kernel_rfl) (fun _ _ _ h => h) (Or.inl ⟨by kernel_rfl, ?_⟩) C1.out ?_
  rotate_left 1
  · intro u hu; go_simp; first | done | with_reducible rfl
  try simp only [Act.put, nA, nB, nC, nD, nE, nF]
  refine held_take 12 ?_ rfl (by kernel_rfl) (by kernel_rfl) (by kernel_rfl) (fun _ _ _ h => h) (Or.inl ⟨by kernel_rfl, ?_⟩) C1.out ?_
  rotate_left 1
  · intro u hu; go_simp; first | done | with_reducible rfl
  try simp only [Act.put, nA, nB, nC, nD, nE, nF]
  refine held_take 13 ?_ rfl (by kernel_rfl) (by kernel_rfl) (by kernel_rfl) (fun _ _ _ h => h) (Or.inl ⟨by kernel_rfl, ?_⟩) C1.out ?_
  rotate_left 1
  · intro u hu; go_simp; first | done | with_reducible rfl
  try simp only [Act.put, nA, nB, nC, nD, nE, nF]
  refine wpAnyH_done (by kernel_rfl) ?_ _
  go_wp2_with fail
  go_ret2
  exact ⟨rfl, U1.out⟩
set_option maxRecDepth 100000 in
set_option maxHeartbeats 8000000 in
theorem msg1_pos {E : EventD} (hi : Int64 E.word) (hn : E.name.length ≤ 1100000) (ht : E.tag = 1) (h0 : 0 ≤ E.word) (w : World) : Calls Tryz.prog 78 #[.agg (evC E)] w fun e w' => e = .returned (.tuple #[.string (BT (wLabel ++ 32 :: itoa E.word)), .bool (decide (E.word < 8))]) ∧ Turn Nn w w' := by
  obtain ⟨w1, e1⟩ : ∃ x, w.alloc (.cells (evC E) 34) = x := ⟨_, rfl⟩
  obtain ⟨b1, t1⟩ := alloc1 e1
  obtain ⟨q, hq⟩ : ∃ q, w.heap.size = q := ⟨_, rfl⟩
  rw [hq] at b1
  have B1 := Lib.hid b1
  have y6 : w1.cell? ⟨q, 6, none⟩ = some (.int .i64 E.tag) := cell_blk b1
  have y7 : w1.cell? ⟨q, 7, none⟩ = some (.int .i64 E.word) := cell_blk b1
  have y8 : w1.cell? ⟨q, 8, none⟩ = some (.string (BT E.name)) := cell_blk b1
  have T1 := Lib.hid t1
  have HW := Lib.hid (rwhole_any hi)
  have hil := itoa_len hi
  have hcat : ∀ W, (Op.stringOp .add ⟨#[108, 97, 98, 101, 108, 32]⟩ (BT (itoa E.word))).run Tryz.prog W = .ok (.string (BT (wLabel ++ 32 :: itoa E.word))) W := fun W => cat_run (a := [108, 97, 98, 101, 108, 32]) (by simp; omega) W
  rw [ht] at y6
  have HCAT := Lib.hid hcat
  have h2 : E.word ≥ 0 := h0
  unfold evC at e1 ⊢
  rw [ht] at e1 ⊢
  clear b1 t1 hn hi hil hcat
  go_enter Tryz.func78, Tryz.ntmps78
  go_upto_region 5 with (fail)
  refine held_begin (fun u => u.cell? ⟨q, 7, none⟩ = some (.int .i64 E.word)) (by kernel_rfl) ?_
  have U0 : Hid (Turn Nn w w1.drew) := Lib.hid T1.out.drew
  have C0 : Hid (World.cell? w1.drew ⟨q, 7, none⟩ = some (.int .i64 E.word)) := Lib.hid (cell_turn (Turn.refl Nn w1).drew y7)
  generalize World.drew w1 = ws at U0 C0 ⊢
  refine held_take 0 ?_ rfl (by kernel_rfl) (by kernel_rfl) (by kernel_rfl) (fun _ _ _ h => h) (Or.inl ⟨by kernel_rfl, ?_⟩) C0.out ?_
  rotate_left 1
  · intro u hu; go_simp; first | done | with_reducible rfl
  try simp only [Act.put, nA, nB, nC, nD, nE, nF]
  refine held_take 1 ?_ rfl (by kernel_rfl) (by kernel_rfl) (by kernel_rfl) (fun _ _ _ h => h) (Or.inl ⟨by kernel_rfl, ?_⟩) C0.out ?_
  rotate_left 1
  · intro u hu; go_simp; first | done | with_reducible rfl
  try simp only [Act.put, nA, nB, nC, nD, nE, nF]
  refine held_take 4 ?_ rfl (by kernel_rfl) (by kernel_rfl) (by kernel_rfl) (fun _ _ _ h => h) (Or.inl ⟨by kernel_rfl, ?_⟩) C0.out ?_
  rotate_left 1
  · intro u hu; go_simp; first | done | with_reducible rfl
  try simp only [Act.put, nA, nB, nC, nD, nE, nF]
  refine held_take 5 ?_ rfl (by kernel_rfl) (by kernel_rfl) (by kernel_rfl) (fun _ _ _ h => h) (Or.inl ⟨by kernel_rfl, ?_⟩) C0.out ?_
  rotate_left 1
  · intro u hu; go_simp; first | done | with_reducible rfl
  try simp only [Act.put, nA, nB, nC, nD, nE, nF]
  refine held_take 6 ?_ rfl (by kernel_rfl) (by kernel_rfl) (by kernel_rfl) (fun _ _ _ h => h) (Or.inl ⟨by kernel_rfl, ?_⟩) C0.out ?_
  rotate_left 1
  · intro u hu; go_simp; first | done | with_reducible rfl
  try simp only [Act.put, nA, nB, nC, nD, nE, nF]
  refine held_call 2 (by kernel_rfl) rfl (by kernel_rfl) (by first | rfl | go_simp) (HW.out _) ?_ (fun c u h => by cases h.1) (fun u h => by cases h.1)
  rintro v2 u ⟨he, t⟩
  cases he
  have U1 := Lib.hid (U0.out.trans t)
  have C1 := Lib.hid (cell_turn t C0.out)
  clear t
  refine ⟨C1.out, ?_⟩
  try simp only [Act.put, nA, nB, nC, nD, nE, nF]
  have hcat := HCAT.out
  refine held_take 3 ?_ rfl (by kernel_rfl) (by kernel_rfl) (by kernel_rfl) (fun _ _ _ h => h) (Or.inl ⟨by kernel_rfl, ?_⟩) C1.out ?_
  rotate_left 1
  · intro u hu; go_simp; first | done | with_reducible rfl
  try simp only [Act.put, nA, nB, nC, nD, nE, nF]
  clear hcat
  refine held_take 7 ?_ rfl (by kernel_rfl) (by kernel_rfl) (by kernel_rfl) (fun _ _ _ h => h) (Or.inl ⟨by kernel_rfl, ?_⟩) C1.out ?_
  rotate_left 1
  · intro u hu; go_simp; first | done | with_reducible rfl
  try simp only [Act.put, nA, nB, nC, nD, nE, nF]
  refine held_take 8 ?_ rfl (by kernel_rfl) (by kernel_rfl) (by kernel_rfl) (fun _ _ _ h => h) (Or.inl ⟨by kernel_rfl, ?_⟩) C1.out ?_
  rotate_left 1
  · intro u hu; go_simp; first | done | with_reducible rfl
  try simp only [Act.put, nA, nB, nC, nD, nE, nF]
  refine held_take 9 ?_ rfl (by kernel_rfl) (by kernel_rfl) (by kernel_rfl) (fun _ _ _ h => h) (Or.inl ⟨by kernel_rfl, ?_⟩) C1.out ?_
  rotate_left 1
  · intro u hu; go_simp; first | done | with_reducible rfl
  try simp only [Act.put, nA, nB, nC, nD, nE, nF]
  refine held_take 10 ?_ rfl (by kernel_rfl) (by kernel_rfl) (by kernel_rfl) (fun _ _ _ h => h) (Or.inl ⟨by kernel_rfl, ?_⟩) C1.out ?_
  rotate_left 1
  · intro u hu; go_simp; first | done | with_reducible rfl
  try simp only [Act.put, nA, nB, nC, nD, nE, nF]
  refine held_take 11 ?_ rfl (by kernel_rfl) (by kernel_rfl) (by kernel_rfl) (fun _ _ _ h => h) (Or.inl ⟨by kernel_rfl, ?_⟩) C1.out ?_
  rotate_left 1
  · intro u hu; go_simp; first | done | with_reducible rfl
  try simp only [Act.put, nA, nB, nC, nD, nE, nF]
  refine held_take 12 ?_ rfl (by kernel_rfl) (by kernel_rfl) (by kernel_rfl) (fun _ _ _ h => h) (Or.inl ⟨by kernel_rfl, ?_⟩) C1.out ?_
  rotate_left 1
  · intro u hu; go_simp; first | done | with_reducible rfl
  try simp only [Act.put, nA, nB, nC, nD, nE, nF]
  refine held_take 13 ?_ rfl (by kernel_rfl) (by kernel_rfl) (by kernel_rfl) (fun _ _ _ h => h) (Or.inl ⟨by kernel_rfl, ?_⟩) C1.out ?_
  rotate_left 1
  · intro u hu; go_simp; first | done | with_reducible rfl
  try simp only [Act.put, nA, nB, nC, nD, nE, nF]
  refine wpAnyH_done (by kernel_rfl) ?_ _
  go_wp2_with fail
  go_ret2
  exact ⟨rfl, U1.out⟩
set_option maxRecDepth 100000 in
set_option maxHeartbeats 8000000 in
theorem msg2 {E : EventD} (hi : Int64 E.word) (hn : E.name.length ≤ 1100000) (ht : E.tag = 2) (w : World) : Calls Tryz.prog 78 #[.agg (evC E)] w fun e w' => e = .returned (.tuple #[.string (BT (wEnd ++ 32 :: E.name)), .bool (endL E.name).isSome]) ∧ Turn Nn w w' := by
  obtain ⟨w1, e1⟩ : ∃ x, w.alloc (.cells (evC E) 34) = x := ⟨_, rfl⟩
  obtain ⟨b1, t1⟩ := alloc1 e1
  obtain ⟨q, hq⟩ : ∃ q, w.heap.size = q := ⟨_, rfl⟩
  rw [hq] at b1
  have B1 := Lib.hid b1
  have y6 : w1.cell? ⟨q, 6, none⟩ = some (.int .i64 E.tag) := cell_blk b1
  have y7 : w1.cell? ⟨q, 7, none⟩ = some (.int .i64 E.word) := cell_blk b1
  have y8 : w1.cell? ⟨q, 8, none⟩ = some (.string (BT E.name)) := cell_blk b1
  have T1 := Lib.hid t1
  have HW := Lib.hid (rwhole_any hi)
  have hil := itoa_len hi
  have hcat : ∀ W, (Op.stringOp .add ⟨#[101, 110, 100, 32]⟩ (BT E.name)).run Tryz.prog W = .ok (.string (BT (wEnd ++ 32 :: E.name))) W := fun W => cat_run (a := [101, 110, 100, 32]) (by simp; omega) W
  rw [ht] at y6
  obtain ⟨c, d, hE⟩ := end3 E.name
  have HE := fun w => Lib.hid (refEnd_any (l := E.name) (by omega) w)
  simp only [hE] at HE
  unfold evC at e1 ⊢
  rw [ht] at e1 ⊢
  clear b1 t1 hn hi hil hE
  go_enter Tryz.func78, Tryz.ntmps78
  go_wp2_with fail
  refine (HE _).out.mono ?_
  rintro e w2 ⟨rfl, t⟩
  have T2 := Lib.hid (T1.out.trans t)
  have y8' := cell_turn t y8
  clear t y6 y7 y8
  go_wp2_with fail
  go_ret2
  exact ⟨rfl, T2.out⟩
set_option maxRecDepth 100000 in
set_option maxHeartbeats 8000000 in
theorem msg3 {E : EventD} (hi : Int64 E.word) (hn : E.name.length ≤ 1100000) (h0 : E.tag ≠ 0) (h1 : E.tag ≠ 1) (h2 : E.tag ≠ 2) (w : World) : Calls Tryz.prog 78 #[.agg (evC E)] w fun e w' => e = .returned (.tuple #[.string (BT []), .bool false]) ∧ Turn Nn w w' := by
  obtain ⟨w1, e1⟩ : ∃ x, w.alloc (.cells (evC E) 34) = x := ⟨_, rfl⟩
  obtain ⟨b1, t1⟩ := alloc1 e1
  obtain ⟨q, hq⟩ : ∃ q, w.heap.size = q := ⟨_, rfl⟩
  rw [hq] at b1
  have B1 := Lib.hid b1
  have y6 : w1.cell? ⟨q, 6, none⟩ = some (.int .i64 E.tag) := cell_blk b1
  have y7 : w1.cell? ⟨q, 7, none⟩ = some (.int .i64 E.word) := cell_blk b1
  have y8 : w1.cell? ⟨q, 8, none⟩ = some (.string (BT E.name)) := cell_blk b1
  have T1 := Lib.hid t1
  have HW := Lib.hid (rwhole_any hi)
  have hil := itoa_len hi
  have k0 : (E.tag == 0) = false := by simp [h0]
  have k1 : (E.tag == 1) = false := by simp [h1]
  have k2 : (E.tag == 2) = false := by simp [h2]
  unfold evC at e1 ⊢
  clear b1 t1 hn hi hil
  go_enter Tryz.func78, Tryz.ntmps78
  go_wp2_with fail
  go_ret2
  exact ⟨rfl, T1.out⟩
theorem msg_any {E : EventD} (hi : Int64 E.word) (hn : E.name.length ≤ 1100000) (w : World) : Calls Tryz.prog 78 #[.agg (evC E)] w fun e w' => e = .returned (.tuple #[.string (BT (msgT E).1), .bool (msgT E).2]) ∧ Turn Nn w w' := by
  unfold msgT
  by_cases h0 : E.tag = 0
  · rw [if_pos h0]; exact msg0 hi hn h0 w
  rw [if_neg h0]
  by_cases h1 : E.tag = 1
  · rw [if_pos h1]
    by_cases hw : 0 ≤ E.word
    · have e : decide (0 ≤ E.word ∧ E.word < 8) = decide (E.word < 8) := decide_eq_decide.2 (by omega)
      simp only [e]
      exact msg1_pos hi hn h1 hw w
    · have e : decide (0 ≤ E.word ∧ E.word < 8) = false := decide_eq_false (by omega)
      simp only [e]
      exact msg1_neg hi hn h1 (by omega) w
  rw [if_neg h1]
  by_cases h2 : E.tag = 2
  · rw [if_pos h2]; exact msg2 hi hn h2 w
  rw [if_neg h2]
  exact msg3 hi hn h0 h1 h2 w
end
end Go.Proofs.YtpbjblbeepbklaaGreatDoor
