/- The program's walks: NamesBack's body, by the contracts of what it calls. Printed by gen_xu.py. The program's walks: law.name of an endpoint (kind 2). Printed by gen_xy.py. The program's walks: law.event whole; NamesBack whole. -/
import Derived.Test.YtpbjblbeepbklaaGreatDoorKr
import Derived.Test.YtpbjblbeepbklaaGreatDoorKs
import Derived.Test.YtpbjblbeepbklaaGreatDoorKm
import Derived.Test.YtpbjblbeepbklaaGreatDoorKt
import Derived.Test.YtpbjblbeepbklaaGreatDoorKv
namespace Go.Proofs.YtpbjblbeepbklaaGreatDoor
set_option linter.unusedSimpArgs false
set_option linter.unusedVariables false
section
open Go.RowKit Go.Shelf Go.Lib

theorem evbox (W : World) (E : EventD) :
    ∃ q wb wc, W.heap.size = q ∧ W.alloc (.cells #[.int .i64 0, .int .i64 0, .string ⟨#[]⟩, .int .i64 0, .string ⟨#[]⟩, .int .i64 0, .int .i64 0, .int .i64 0, .string ⟨#[]⟩] 34) = wb ∧ EvAt wb q zeroE ∧ set9 wb q E = wc ∧ EvAt wc q E ∧ Turn Nn W wb ∧ Turn Nn W wc := by
  obtain ⟨wb, e0⟩ : ∃ wb, W.alloc (.cells (evC zeroE) 34) = wb := ⟨_, rfl⟩
  obtain ⟨b0, t0⟩ := alloc1 e0
  exact ⟨W.heap.size, wb, _, rfl, e0, b0, rfl, set9_at b0 E, t0, t0.off (set9_turn (B := W.heap.size) E) (Nat.le_refl _)⟩
theorem ev_neq (E F : EventD) (W : World) : (binOp BinOp.neq 34 (.agg (evC E)) (.agg (evC F))).run Tryz.prog W = .ok (.bool (!decide (E = F))) W := by
  unfold evC
  go_simp
  have hd : decide (E = F) = decide (E.kind = F.kind ∧ E.slot = F.slot ∧ E.actor = F.actor ∧ E.pc = F.pc ∧ E.chan = F.chan ∧ E.side = F.side ∧ E.tag = F.tag ∧ E.word = F.word ∧ E.name = F.name) := decide_eq_decide.2 ev_same
  rw [hd]
  simp only [BT_toList]
  repeat' split
  all_goals simp_all
end
section
open Go.RowKit Go.Shelf Go.Lib

set_option maxRecDepth 100000 in
set_option maxHeartbeats 16000000 in
theorem name2_some {w : World} {bb oo cap N m k : Nat} {x y : Int} {Nn1 DD : Bs} (hc : w.cell? ⟨bb, oo, none⟩ = some (.int .u8 x)) (hx : 0 ≤ x ∧ x < 256) (hy : x % 2 = y) (hm : min (N : Int) 20 = (m : Int)) (hm1 : 1 ≤ m) (hmk : k + 1 = m) (hmc : m ≤ cap) (hmn : m ≤ N) (hn : N ≤ cap) {aa : Addr} (haa : (if cap = 1 then some (⟨bb, oo, none⟩ : Addr) else some ⟨bb, oo + 1, none⟩) = some aa)
    (hN : Gives w 9 #[.slice (some aa) k (cap - 1), .int .i64 1] (.string (BT Nn1))) (hD : Gives w 26 #[.int .u8 y] (.string (BT DD))) (hl : Nn1.length + DD.length ≤ 1000) :
    Calls Tryz.prog 9 #[.slice (some ⟨bb, oo, none⟩) N cap, .int .i64 2] w fun e w' => e = .returned (.string (BT (Nn1 ++ 58 :: DD))) ∧ Turn Nn w w' := by
  have hcat1 : ∀ W, (Op.stringOp .add (BT Nn1) ⟨#[58]⟩).run Tryz.prog W = .ok (.string (BT (Nn1 ++ [58]))) W := fun W => cat_run (b := [58]) (by simp; omega) W
  have hcat2 : ∀ W, (Op.stringOp .add (BT (Nn1 ++ [58])) (BT DD)).run Tryz.prog W = .ok (.string (BT (Nn1 ++ 58 :: DD))) W := fun W => by
    rw [cat_run (by simp; omega) W]
    simp
  have HCAT1 := Lib.hid hcat1
  have HCAT2 := Lib.hid hcat2
  clear hcat1 hcat2 hl
  have hy2 : x.tmod 2 = y := by rw [← hy]; exact Int.tmod_eq_emod_of_nonneg (by omega)
  have hy3 : IntKind.u8.wrap y = y := IntWalk.u8_in _ (by omega)
  have hk : m - 1 = k := by omega
  have hm0 : ¬ (m : Int) = 0 := by omega
  have hmb : ((m : Int) == 0) = false := by simp; omega
  have hm1i : (1 : Int) ≤ (m : Int) := by omega
  have hm0n : 0 < m := by omega
  have T := Lib.hid (Turn.refl Nn w)
  have HC := Lib.hid hc
  clear hx hy hmk hc
  go_enter Tryz.func9, Tryz.ntmps9
  go_upto_region 5 with (fail)
  refine held_begin (fun u => u.cell? ⟨bb, oo, none⟩ = some (.int .u8 x)) (by kernel_rfl) ?_
  have T0 : Hid (Turn Nn w w.drew) := Lib.hid (T.out.trans (Turn.refl Nn w).drew)
  have S0 : Hid (World.cell? w.drew ⟨bb, oo, none⟩ = some (.int .u8 x)) := Lib.hid (cell_turn (Turn.refl Nn w).drew HC.out)
  generalize World.drew w = ws at T0 S0 ⊢
  refine held_take 0 ?_ rfl (by kernel_rfl) (by kernel_rfl) (by kernel_rfl) (fun _ _ _ h => h) (Or.inl ⟨by kernel_rfl, ?_⟩) S0.out ?_
  rotate_left 1
  · intro u hu; go_simp; first | done | with_reducible rfl
  try simp only [Act.put, nA, nB, nC, nD, nE, nF]
  refine held_take 1 ?_ rfl (by kernel_rfl) (by kernel_rfl) (by kernel_rfl) (fun _ _ _ h => h) (Or.inl ⟨by kernel_rfl, ?_⟩) S0.out ?_
  rotate_left 1
  · intro u hu; go_simp; first | done | with_reducible rfl
  try simp only [Act.put, nA, nB, nC, nD, nE, nF]
  refine held_take 4 ?_ rfl (by kernel_rfl) (by kernel_rfl) (by kernel_rfl) (fun _ _ _ h => h) (Or.inl ⟨by kernel_rfl, ?_⟩) S0.out ?_
  rotate_left 1
  · intro u hu; go_simp; first | done | with_reducible rfl
  try simp only [Act.put, nA, nB, nC, nD, nE, nF]
  refine held_take 5 ?_ rfl (by kernel_rfl) (by kernel_rfl) (by kernel_rfl) (fun _ _ _ h => h) (Or.inl ⟨by kernel_rfl, ?_⟩) S0.out ?_
  rotate_left 1
  · intro u hu; go_simp; first | done | with_reducible rfl
  try simp only [Act.put, nA, nB, nC, nD, nE, nF]
  refine held_take 6 ?_ rfl (by kernel_rfl) (by kernel_rfl) (by kernel_rfl) (fun _ _ _ h => h) (Or.inl ⟨by kernel_rfl, ?_⟩) S0.out ?_
  rotate_left 1
  · intro u hu; go_simp; first | done | with_reducible rfl
  try simp only [Act.put, nA, nB, nC, nD, nE, nF]
  refine held_take 7 ?_ rfl (by kernel_rfl) (by kernel_rfl) (by kernel_rfl) (fun _ _ _ h => h) (Or.inl ⟨by kernel_rfl, ?_⟩) S0.out ?_
  rotate_left 1
  · intro u hu; go_simp; first | done | with_reducible rfl
  try simp only [Act.put, nA, nB, nC, nD, nE, nF]
  refine held_call 2 (by kernel_rfl) rfl (by kernel_rfl) (by first | rfl | go_simp) (hN _ T0.out) ?_ (fun c u h => by cases h.1) (fun u h => by cases h.1)
  rintro v u ⟨he, t⟩
  cases he
  have T1 := Lib.hid (T0.out.trans t)
  have S1 := Lib.hid (cell_turn t S0.out)
  clear t
  refine ⟨S1.out, ?_⟩
  try simp only [Act.put, nA, nB, nC, nD, nE, nF]
  have hcat1 := HCAT1.out
  refine held_take 3 ?_ rfl (by kernel_rfl) (by kernel_rfl) (by kernel_rfl) (fun _ _ _ h => h) (Or.inl ⟨by kernel_rfl, ?_⟩) S1.out ?_
  rotate_left 1
  · intro u hu; go_simp; first | done | with_reducible rfl
  try simp only [Act.put, nA, nB, nC, nD, nE, nF]
  clear hcat1
  refine held_call 8 (by kernel_rfl) rfl (by kernel_rfl) (by first | rfl | go_simp) (hD _ T1.out) ?_ (fun c u h => by cases h.1) (fun u h => by cases h.1)
  rintro v u ⟨he, t⟩
  cases he
  have T2 := Lib.hid (T1.out.trans t)
  have S2 := Lib.hid (cell_turn t S1.out)
  clear t
  refine ⟨S2.out, ?_⟩
  try simp only [Act.put, nA, nB, nC, nD, nE, nF]
  have hcat2 := HCAT2.out
  refine held_take 9 ?_ rfl (by kernel_rfl) (by kernel_rfl) (by kernel_rfl) (fun _ _ _ h => h) (Or.inl ⟨by kernel_rfl, ?_⟩) S2.out ?_
  rotate_left 1
  · intro u hu; go_simp; first | done | with_reducible rfl
  try simp only [Act.put, nA, nB, nC, nD, nE, nF]
  clear hcat2
  refine held_take 10 ?_ rfl (by kernel_rfl) (by kernel_rfl) (by kernel_rfl) (fun _ _ _ h => h) (Or.inl ⟨by kernel_rfl, ?_⟩) S2.out ?_
  rotate_left 1
  · intro u hu; go_simp; first | done | with_reducible rfl
  try simp only [Act.put, nA, nB, nC, nD, nE, nF]
  refine wpAnyH_done (by kernel_rfl) ?_ _
  go_wp2_with fail
  go_ret
  exact ⟨rfl, T2.out⟩
set_option maxRecDepth 100000 in
set_option maxHeartbeats 16000000 in
theorem name2_nil {w : World} {Nn1 DD : Bs} (hN : ∀ b, Gives w 9 #[.slice (some b) 0 0, .int .i64 1] (.string (BT Nn1))) (hD : Gives w 26 #[.int .u8 0] (.string (BT DD))) (hl : Nn1.length + DD.length ≤ 1000) :
    Calls Tryz.prog 9 #[.slice none 0 0, .int .i64 2] w fun e w' => e = .returned (.string (BT (Nn1 ++ 58 :: DD))) ∧ Turn Nn w w' := by
  have hcat1 : ∀ W, (Op.stringOp .add (BT Nn1) ⟨#[58]⟩).run Tryz.prog W = .ok (.string (BT (Nn1 ++ [58]))) W := fun W => cat_run (b := [58]) (by simp; omega) W
  have hcat2 : ∀ W, (Op.stringOp .add (BT (Nn1 ++ [58])) (BT DD)).run Tryz.prog W = .ok (.string (BT (Nn1 ++ 58 :: DD))) W := fun W => by
    rw [cat_run (by simp; omega) W]
    simp
  have HCAT1 := Lib.hid hcat1
  have HCAT2 := Lib.hid hcat2
  clear hcat1 hcat2 hl
  obtain ⟨w1, e1⟩ : ∃ w1, w.alloc (.cells #[.int .u8 0] 5) = w1 := ⟨_, rfl⟩
  obtain ⟨b1, t1⟩ := alloc1 e1
  obtain ⟨bb, hbb⟩ : ∃ bb, w.heap.size = bb := ⟨_, rfl⟩
  rw [hbb] at b1
  have HC : Hid (w1.cell? ⟨bb, 0, none⟩ = some (.int .u8 0)) := Lib.hid (cell_blk b1)
  have T := Lib.hid t1
  have hmx1 : (max (min (0 : Int) 20) 0 == 0) = true := by decide
  have hmx2 : max (min (0 : Int) 20) 0 = 0 := by decide
  clear b1 t1
  go_enter Tryz.func9, Tryz.ntmps9
  go_upto_region 5 with (fail)
  refine held_begin (fun u => u.cell? ⟨bb, 0, none⟩ = some (.int .u8 0)) (by kernel_rfl) ?_
  have T0 : Hid (Turn Nn w w1.drew) := Lib.hid (T.out.trans (Turn.refl Nn w1).drew)
  have S0 : Hid (World.cell? w1.drew ⟨bb, 0, none⟩ = some (.int .u8 0)) := Lib.hid (cell_turn (Turn.refl Nn w1).drew HC.out)
  generalize World.drew w1 = ws at T0 S0 ⊢
  refine held_take 0 ?_ rfl (by kernel_rfl) (by kernel_rfl) (by kernel_rfl) (fun _ _ _ h => h) (Or.inl ⟨by kernel_rfl, ?_⟩) S0.out ?_
  rotate_left 1
  · intro u hu; go_simp; first | done | with_reducible rfl
  try simp only [Act.put, nA, nB, nC, nD, nE, nF]
  refine held_take 1 ?_ rfl (by kernel_rfl) (by kernel_rfl) (by kernel_rfl) (fun _ _ _ h => h) (Or.inl ⟨by kernel_rfl, ?_⟩) S0.out ?_
  rotate_left 1
  · intro u hu; go_simp; first | done | with_reducible rfl
  try simp only [Act.put, nA, nB, nC, nD, nE, nF]
  refine held_take 4 ?_ rfl (by kernel_rfl) (by kernel_rfl) (by kernel_rfl) (fun _ _ _ h => h) (Or.inl ⟨by kernel_rfl, ?_⟩) S0.out ?_
  rotate_left 1
  · intro u hu; go_simp; first | done | with_reducible rfl
  try simp only [Act.put, nA, nB, nC, nD, nE, nF]
  refine held_take 5 ?_ rfl (by kernel_rfl) (by kernel_rfl) (by kernel_rfl) (fun _ _ _ h => h) (Or.inl ⟨by kernel_rfl, ?_⟩) S0.out ?_
  rotate_left 1
  · intro u hu; go_simp; first | done | with_reducible rfl
  try simp only [Act.put, nA, nB, nC, nD, nE, nF]
  refine held_take 6 ?_ rfl (by kernel_rfl) (by kernel_rfl) (by kernel_rfl) (fun _ _ _ h => h) (Or.inl ⟨by kernel_rfl, ?_⟩) S0.out ?_
  rotate_left 1
  · intro u hu; go_simp; first | done | with_reducible rfl
  try simp only [Act.put, nA, nB, nC, nD, nE, nF]
  refine held_take 7 ?_ rfl (by kernel_rfl) (by kernel_rfl) (by kernel_rfl) (fun _ _ _ h => h) (Or.inl ⟨by kernel_rfl, ?_⟩) S0.out ?_
  rotate_left 1
  · intro u hu; go_simp; first | done | with_reducible rfl
  try simp only [Act.put, nA, nB, nC, nD, nE, nF]
  refine held_call 2 (by kernel_rfl) rfl (by kernel_rfl) (by first | rfl | go_simp) (hN ⟨bb, 0, none⟩ _ T0.out) ?_ (fun c u h => by cases h.1) (fun u h => by cases h.1)
  rintro v u ⟨he, t⟩
  cases he
  have T1 := Lib.hid (T0.out.trans t)
  have S1 := Lib.hid (cell_turn t S0.out)
  clear t
  refine ⟨S1.out, ?_⟩
  try simp only [Act.put, nA, nB, nC, nD, nE, nF]
  have hcat1 := HCAT1.out
  refine held_take 3 ?_ rfl (by kernel_rfl) (by kernel_rfl) (by kernel_rfl) (fun _ _ _ h => h) (Or.inl ⟨by kernel_rfl, ?_⟩) S1.out ?_
  rotate_left 1
  · intro u hu; go_simp; first | done | with_reducible rfl
  try simp only [Act.put, nA, nB, nC, nD, nE, nF]
  clear hcat1
  refine held_call 8 (by kernel_rfl) rfl (by kernel_rfl) (by first | rfl | go_simp) (hD _ T1.out) ?_ (fun c u h => by cases h.1) (fun u h => by cases h.1)
  rintro v u ⟨he, t⟩
  cases he
  have T2 := Lib.hid (T1.out.trans t)
  have S2 := Lib.hid (cell_turn t S1.out)
  clear t
  refine ⟨S2.out, ?_⟩
  try simp only [Act.put, nA, nB, nC, nD, nE, nF]
  have hcat2 := HCAT2.out
  refine held_take 9 ?_ rfl (by kernel_rfl) (by kernel_rfl) (by kernel_rfl) (fun _ _ _ h => h) (Or.inl ⟨by kernel_rfl, ?_⟩) S2.out ?_
  rotate_left 1
  · intro u hu; go_simp; first | done | with_reducible rfl
  try simp only [Act.put, nA, nB, nC, nD, nE, nF]
  clear hcat2
  refine held_take 10 ?_ rfl (by kernel_rfl) (by kernel_rfl) (by kernel_rfl) (fun _ _ _ h => h) (Or.inl ⟨by kernel_rfl, ?_⟩) S2.out ?_
  rotate_left 1
  · intro u hu; go_simp; first | done | with_reducible rfl
  try simp only [Act.put, nA, nB, nC, nD, nE, nF]
  refine wpAnyH_done (by kernel_rfl) ?_ _
  go_wp2_with fail
  go_ret
  exact ⟨rfl, T2.out⟩
set_option maxRecDepth 100000 in
set_option maxHeartbeats 16000000 in
theorem name2_emp {w : World} {a : Addr} {cap : Nat} {Nn1 DD : Bs} (hN : ∀ b, Gives w 9 #[.slice (some b) 0 0, .int .i64 1] (.string (BT Nn1))) (hD : Gives w 26 #[.int .u8 0] (.string (BT DD))) (hl : Nn1.length + DD.length ≤ 1000) :
    Calls Tryz.prog 9 #[.slice (some a) 0 cap, .int .i64 2] w fun e w' => e = .returned (.string (BT (Nn1 ++ 58 :: DD))) ∧ Turn Nn w w' := by
  have hcat1 : ∀ W, (Op.stringOp .add (BT Nn1) ⟨#[58]⟩).run Tryz.prog W = .ok (.string (BT (Nn1 ++ [58]))) W := fun W => cat_run (b := [58]) (by simp; omega) W
  have hcat2 : ∀ W, (Op.stringOp .add (BT (Nn1 ++ [58])) (BT DD)).run Tryz.prog W = .ok (.string (BT (Nn1 ++ 58 :: DD))) W := fun W => by
    rw [cat_run (by simp; omega) W]
    simp
  have HCAT1 := Lib.hid hcat1
  have HCAT2 := Lib.hid hcat2
  clear hcat1 hcat2 hl
  obtain ⟨w1, e1⟩ : ∃ w1, w.alloc (.cells #[.int .u8 0] 5) = w1 := ⟨_, rfl⟩
  obtain ⟨b1, t1⟩ := alloc1 e1
  obtain ⟨bb, hbb⟩ : ∃ bb, w.heap.size = bb := ⟨_, rfl⟩
  rw [hbb] at b1
  have HC : Hid (w1.cell? ⟨bb, 0, none⟩ = some (.int .u8 0)) := Lib.hid (cell_blk b1)
  have T := Lib.hid t1
  have hmx1 : (max (min (0 : Int) 20) 0 == 0) = true := by decide
  have hmx2 : max (min (0 : Int) 20) 0 = 0 := by decide
  clear b1 t1
  go_enter Tryz.func9, Tryz.ntmps9
  go_upto_region 5 with (fail)
  refine held_begin (fun u => u.cell? ⟨bb, 0, none⟩ = some (.int .u8 0)) (by kernel_rfl) ?_
  have T0 : Hid (Turn Nn w w1.drew) := Lib.hid (T.out.trans (Turn.refl Nn w1).drew)
  have S0 : Hid (World.cell? w1.drew ⟨bb, 0, none⟩ = some (.int .u8 0)) := Lib.hid (cell_turn (Turn.refl Nn w1).drew HC.out)
  generalize World.drew w1 = ws at T0 S0 ⊢
  refine held_take 0 ?_ rfl (by kernel_rfl) (by kernel_rfl) (by kernel_rfl) (fun _ _ _ h => h) (Or.inl ⟨by kernel_rfl, ?_⟩) S0.out ?_
  rotate_left 1
  · intro u hu; go_simp; first | done | with_reducible rfl
  try simp only [Act.put, nA, nB, nC, nD, nE, nF]
  refine held_take 1 ?_ rfl (by kernel_rfl) (by kernel_rfl) (by kernel_rfl) (fun _ _ _ h => h) (Or.inl ⟨by kernel_rfl, ?_⟩) S0.out ?_
  rotate_left 1
  · intro u hu; go_simp; first | done | with_reducible rfl
  try simp only [Act.put, nA, nB, nC, nD, nE, nF]
  refine held_take 4 ?_ rfl (by kernel_rfl) (by kernel_rfl) (by kernel_rfl) (fun _ _ _ h => h) (Or.inl ⟨by kernel_rfl, ?_⟩) S0.out ?_
  rotate_left 1
  · intro u hu; go_simp; first | done | with_reducible rfl
  try simp only [Act.put, nA, nB, nC, nD, nE, nF]
  refine held_take 5 ?_ rfl (by kernel_rfl) (by kernel_rfl) (by kernel_rfl) (fun _ _ _ h => h) (Or.inl ⟨by kernel_rfl, ?_⟩) S0.out ?_
  rotate_left 1
  · intro u hu; go_simp; first | done | with_reducible rfl
  try simp only [Act.put, nA, nB, nC, nD, nE, nF]
  refine held_take 6 ?_ rfl (by kernel_rfl) (by kernel_rfl) (by kernel_rfl) (fun _ _ _ h => h) (Or.inl ⟨by kernel_rfl, ?_⟩) S0.out ?_
  rotate_left 1
  · intro u hu; go_simp; first | done | with_reducible rfl
  try simp only [Act.put, nA, nB, nC, nD, nE, nF]
  refine held_take 7 ?_ rfl (by kernel_rfl) (by kernel_rfl) (by kernel_rfl) (fun _ _ _ h => h) (Or.inl ⟨by kernel_rfl, ?_⟩) S0.out ?_
  rotate_left 1
  · intro u hu; go_simp; first | done | with_reducible rfl
  try simp only [Act.put, nA, nB, nC, nD, nE, nF]
  refine held_call 2 (by kernel_rfl) rfl (by kernel_rfl) (by first | rfl | go_simp) (hN ⟨bb, 0, none⟩ _ T0.out) ?_ (fun c u h => by cases h.1) (fun u h => by cases h.1)
  rintro v u ⟨he, t⟩
  cases he
  have T1 := Lib.hid (T0.out.trans t)
  have S1 := Lib.hid (cell_turn t S0.out)
  clear t
  refine ⟨S1.out, ?_⟩
  try simp only [Act.put, nA, nB, nC, nD, nE, nF]
  have hcat1 := HCAT1.out
  refine held_take 3 ?_ rfl (by kernel_rfl) (by kernel_rfl) (by kernel_rfl) (fun _ _ _ h => h) (Or.inl ⟨by kernel_rfl, ?_⟩) S1.out ?_
  rotate_left 1
  · intro u hu; go_simp; first | done | with_reducible rfl
  try simp only [Act.put, nA, nB, nC, nD, nE, nF]
  clear hcat1
  refine held_call 8 (by kernel_rfl) rfl (by kernel_rfl) (by first | rfl | go_simp) (hD _ T1.out) ?_ (fun c u h => by cases h.1) (fun u h => by cases h.1)
  rintro v u ⟨he, t⟩
  cases he
  have T2 := Lib.hid (T1.out.trans t)
  have S2 := Lib.hid (cell_turn t S1.out)
  clear t
  refine ⟨S2.out, ?_⟩
  try simp only [Act.put, nA, nB, nC, nD, nE, nF]
  have hcat2 := HCAT2.out
  refine held_take 9 ?_ rfl (by kernel_rfl) (by kernel_rfl) (by kernel_rfl) (fun _ _ _ h => h) (Or.inl ⟨by kernel_rfl, ?_⟩) S2.out ?_
  rotate_left 1
  · intro u hu; go_simp; first | done | with_reducible rfl
  try simp only [Act.put, nA, nB, nC, nD, nE, nF]
  clear hcat2
  refine held_take 10 ?_ rfl (by kernel_rfl) (by kernel_rfl) (by kernel_rfl) (fun _ _ _ h => h) (Or.inl ⟨by kernel_rfl, ?_⟩) S2.out ?_
  rotate_left 1
  · intro u hu; go_simp; first | done | with_reducible rfl
  try simp only [Act.put, nA, nB, nC, nD, nE, nF]
  refine wpAnyH_done (by kernel_rfl) ?_ _
  go_wp2_with fail
  go_ret
  exact ⟨rfl, T2.out⟩
theorem name2_any {l : List Nat} {v : Value} {w : World} (h : ByteSl w v l) : Calls Tryz.prog 9 #[v, .int .i64 2] w fun e w' => e = .returned (.string (BT (name2 l))) ∧ Turn Nn w w' := by
  have hfl : (name1 (fixL l).tail).length + (decDigits ((fixL l).headD 0 % 2)).length ≤ 1000 := by
    have h1 := name1_len (l := (fixL l).tail) (fun n hn => fixL_lt h.1 n (List.mem_of_mem_tail hn))
    have h2 := decDigits_len (n := (fixL l).headD 0 % 2) (by omega)
    omega
  have hsm : ∀ b, Gives w 9 #[.slice (some b) 0 0, .int .i64 1] (.string (BT (name1 []))) := fun b => gives_name1 (w := w) ⟨by simp, by simp, .inr (.inl ⟨_, _, rfl, rfl⟩)⟩
  have hd0 : Gives w 26 #[.int .u8 0] (.string (BT (decDigits 0))) := fun u _ => digits_any 0 (by omega) u
  have h' := h
  obtain ⟨h256, hn, h3⟩ := h
  rcases h3 with ⟨rfl, rfl⟩ | ⟨a, cap, rfl, rfl⟩ | ⟨b, o, cap, rfl, hcap, hc⟩
  · exact name2_nil hsm hd0 hfl
  · exact name2_emp hsm hd0 hfl
  · by_cases h0 : l = []
    · subst h0
      exact name2_emp hsm hd0 hfl
    · have hF : fixL l = l.take 20 := fixL_take h0
      have hpos : 0 < l.length := List.length_pos_iff.2 h0
      obtain ⟨m, hm⟩ : ∃ m, min l.length 20 = m := ⟨_, rfl⟩
      have hF2 : (fixL l).headD 0 = l[0]?.getD 0 := by
        rw [hF]
        cases l with
        | nil => exact absurd rfl h0
        | cons x r => rfl
      have hlt : l[0]?.getD 0 < 256 := by
        rw [List.getElem?_eq_getElem hpos]
        exact h256 _ (List.getElem_mem _)
      have htl : (fixL l).tail.length = m - 1 := by rw [hF, List.length_tail, List.length_take, Nat.min_comm, hm]
      have hget : ∀ i, i < m - 1 → (fixL l).tail[i]?.getD 0 = l[i + 1]?.getD 0 := by
        intro i hi
        rw [hF, List.getElem?_tail, List.getElem?_take_of_lt (by omega)]
      obtain ⟨aa, haa⟩ : ∃ aa, (if cap = 1 then some (⟨b, o, none⟩ : Addr) else some ⟨b, o + 1, none⟩) = some aa := by split <;> exact ⟨_, rfl⟩
      have hb : ByteSl w (.slice (some aa) (m - 1) (cap - 1)) (fixL l).tail := by
        by_cases h1 : m = 1
        · subst h1
          exact ⟨fun n hn => fixL_lt h256 n (List.mem_of_mem_tail hn), by omega, .inr (.inl ⟨aa, _, rfl, List.length_eq_zero_iff.1 htl⟩)⟩
        rw [if_neg (by omega)] at haa
        obtain rfl := Option.some.inj haa
        refine ⟨fun n hn => fixL_lt h256 n (List.mem_of_mem_tail hn), by omega, .inr (.inr ⟨b, o + 1, cap - 1, by rw [htl], by omega, fun i hi => ?_⟩)⟩
        rw [htl] at hi
        rw [hget i hi, Nat.add_assoc, Nat.add_comm 1 i]
        exact hc (i + 1) (by omega)
      have hc0 := hc 0 hpos
      rw [Nat.add_zero] at hc0
      have := name2_some (x := ((l[0]?.getD 0 : Nat) : Int)) (y := ((l[0]?.getD 0 % 2 : Nat) : Int)) (N := l.length) (m := m) (k := m - 1) hc0 (by omega) (by omega) (by omega) (by omega) (by omega) (by omega) (by omega) hcap haa (gives_name1 hb) (fun u _ => digits_any _ (by omega) u) (by rw [← hF2]; exact hfl)
      unfold name2
      rw [hF2]
      exact this
theorem gives_name2 {w : World} {v : Value} {l : List Nat} (h : ByteSl w v l) : Gives w 9 #[v, .int .i64 2] (.string (BT (name2 l))) := fun u t => name2_any (h.turn t)
end
section
open Go.RowKit Go.Shelf Go.Lib

theorem event_any {x : ActD} {va vc vn : Value} {w : World} (h : ActOk x) (ha : ByteSl w va x.actor) (hc : ByteSl w vc x.chan) (hn : ByteSl w vn x.name) :
    Calls Tryz.prog 23 #[.agg #[.int .u8 (x.kind : Int), va, vc, vn, .int .u8 (x.side : Int), .int .u8 (x.tag : Int), .int .i64 x.word, .int .u8 (x.odd : Int)]] w fun e w' => e = .returned (.agg (evC (eventE x))) ∧ Turn Nn w w' := by
  have h1 := h.kind
  have h2 := h.side
  have h3 := h.tag
  have h4 := h.odd
  have l1 := name0_len h.actor
  have l2 := decDigits_len h.side
  exact event_walk (Kx := ((x.kind % 10 : Nat) : Int)) (Sl := ((x.kind / 10 : Nat) : Int)) (P := ((x.tag / 3 : Nat) : Int)) (T := ((x.tag % 3 : Nat) : Int)) (S2 := ((x.side % 2 : Nat) : Int)) (S8 := ((x.side % 8 : Nat) : Int)) (O := ((x.odd % 16 : Nat) : Int))
    (by omega) (by omega) (by omega) (by omega) (by omega) (by omega) (by omega) (by omega) (by omega) (by omega) (by omega) h.word (by omega) (by omega)
    (gives_name0 ha) (gives_name1 hc) (gives_name0 hn) (gives_name1 hn) (gives_name2 hn) (fun u _ => digits_any _ h2 u)
theorem gives_event {x : ActD} {va vc vn : Value} {w : World} (h : ActOk x) (ha : ByteSl w va x.actor) (hc : ByteSl w vc x.chan) (hn : ByteSl w vn x.name) :
    Gives w 23 #[.agg #[.int .u8 (x.kind : Int), va, vc, vn, .int .u8 (x.side : Int), .int .u8 (x.tag : Int), .int .i64 x.word, .int .u8 (x.odd : Int)]] (.agg (evC (eventE x))) := fun u t => event_any h (ha.turn t) (hc.turn t) (hn.turn t)
theorem gives_parse {w : World} (hw : Laid w) {s : Bs} (hs : s.length ≤ 4000000) : Gives w 24 #[.string (BT s)] (.tuple #[.agg (evC (parseC s).1), .int .i64 (parseC s).2]) := fun u t => parse_any hs (hw.turn t)
theorem textC_some {E : EventD} {s : Bs} (h : textD E = some s) : textC E = (s, 0) := by unfold textC; rw [h]
theorem textC_none {E : EventD} (h : textD E = none) : textC E = ([], 2) := by unfold textC; rw [h]
end
end Go.Proofs.YtpbjblbeepbklaaGreatDoor
