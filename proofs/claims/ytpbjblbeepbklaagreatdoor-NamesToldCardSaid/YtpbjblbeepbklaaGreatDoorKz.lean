/- The program's walks: NamesTold. Printed by gen_yc.py. The program's walks: NamesTold whole; two slices of bytes that came in. -/
import Derived.Test.YtpbjblbeepbklaaGreatDoorKy
import Derived.Test.YtpbjblbeepbklaaGreatDoorKw
import Derived.Test.YtpbjblbeepbklaaGreatDoorKu
namespace Go.Proofs.YtpbjblbeepbklaaGreatDoor
section
set_option linter.unusedSimpArgs false
set_option linter.unusedVariables false
open Go.RowKit Go.Shelf Go.Lib

theorem endA_three (l : Bs) : ∃ c d z, endA l = #[.string c, .int .i64 d, .bool z] := by
  unfold endA
  split
  · exact ⟨_, _, _, rfl⟩
  · exact ⟨_, _, _, rfl⟩
theorem two_turn {q : Nat} {v0 v1 : Value} {u u' : World} (h : u.cell? ⟨q, 0, none⟩ = some v0 ∧ u.cell? ⟨q, 1, none⟩ = some v1) (t : Turn Nn u u') : u'.cell? ⟨q, 0, none⟩ = some v0 ∧ u'.cell? ⟨q, 1, none⟩ = some v1 := ⟨cell_turn t h.1, cell_turn t h.2⟩

set_option maxRecDepth 100000 in
set_option maxHeartbeats 40000000 in
theorem told_walk {w : World} {va vb : Value} {SA SB : ByteArray} {X0 X1 X2 X3 X4 X5 X6 : Bs} (hw : Laid w)
    (n2 : Gives w 9 #[va, .int .i64 0] (.string (BT X2))) (n3 : Gives w 9 #[vb, .int .i64 0] (.string (BT X3))) (n4 : Gives w 9 #[va, .int .i64 1] (.string (BT X4))) (n5 : Gives w 9 #[vb, .int .i64 1] (.string (BT X5))) (n6 : Gives w 9 #[va, .int .i64 2] (.string (BT X6)))
    (ea : SA.extract 0 (min SA.size 1000) = BT X0) (eb : SB.extract 0 (min SB.size 1000) = BT X1) (sa : SA.size ≤ 9223372036854775807) (sb : SB.size ≤ 9223372036854775807)
    (hl : ∀ x ∈ [X0, X1, X2, X3, X4, X5, X6], x.length ≤ 4000000) :
    Calls Tryz.prog 3 #[.string SA, .string SB, .agg #[va, vb]] w fun e w' => e = .returned (.bool true) ∧ Turn Nn w w' := by
  obtain ⟨w1, e1⟩ : ∃ w1, w.alloc (.cells #[va, vb] 23) = w1 := ⟨_, rfl⟩
  obtain ⟨b1, t1⟩ := alloc1 e1
  obtain ⟨q, hq⟩ : ∃ q, w.heap.size = q := ⟨_, rfl⟩
  rw [hq] at b1
  have T1 := Lib.hid t1
  have B1 : Hid (w1.cell? ⟨q, 0, none⟩ = some va ∧ w1.cell? ⟨q, 1, none⟩ = some vb) := Lib.hid ⟨cell_blk b1, cell_blk b1⟩
  obtain ⟨m, hm⟩ : ∃ m, min SA.size 1000 = m := ⟨_, rfl⟩
  obtain ⟨n, hn⟩ : ∃ n, min SB.size 1000 = n := ⟨_, rfl⟩
  have hml : m ≤ SA.size := by omega
  have hnl : n ≤ SB.size := by omega
  have hmin1 : ∀ W, (Builtin.min_ #[3, 3] 3 #[.int .i64 SA.size, .int .i64 1000]).run Tryz.prog W = .ok (.int .i64 (m : Int)) W := fun W => by
    rw [run_min_int2]
    congr 2
    split <;> omega
  have hmin2 : ∀ W, (Builtin.min_ #[3, 3] 3 #[.int .i64 SB.size, .int .i64 1000]).run Tryz.prog W = .ok (.int .i64 (n : Int)) W := fun W => by
    rw [run_min_int2]
    congr 2
    split <;> omega
  rw [hm] at ea
  rw [hn] at eb
  have HW := Lib.hid hw
  have HL := Lib.hid hl
  obtain ⟨Y0, h0⟩ : ∃ Y, BT X0 = Y := ⟨_, rfl⟩
  obtain ⟨Y1, h1⟩ : ∃ Y, BT X1 = Y := ⟨_, rfl⟩
  obtain ⟨Y2, h2⟩ : ∃ Y, BT X2 = Y := ⟨_, rfl⟩
  obtain ⟨Y3, h3⟩ : ∃ Y, BT X3 = Y := ⟨_, rfl⟩
  obtain ⟨Y4, h4⟩ : ∃ Y, BT X4 = Y := ⟨_, rfl⟩
  obtain ⟨Y5, h5⟩ : ∃ Y, BT X5 = Y := ⟨_, rfl⟩
  obtain ⟨Y6, h6⟩ : ∃ Y, BT X6 = Y := ⟨_, rfl⟩
  rw [h0] at ea
  rw [h1] at eb
  rw [h2] at n2
  rw [h3] at n3
  rw [h4] at n4
  rw [h5] at n5
  rw [h6] at n6
  have HYS : Hid (∀ k : Nat, k < 7 → ([Y0, Y1, Y2, Y3, Y4, Y5, Y6] : List ByteArray)[k]? = some (BT (([X0, X1, X2, X3, X4, X5, X6] : List Bs)[k]?.getD []))) := Lib.hid (by
    intro k hk
    have hk2 : k = 0 ∨ k = 1 ∨ k = 2 ∨ k = 3 ∨ k = 4 ∨ k = 5 ∨ k = 6 := by omega
    rcases hk2 with rfl | rfl | rfl | rfl | rfl | rfl | rfl
    · rw [← h0]; rfl
    · rw [← h1]; rfl
    · rw [← h2]; rfl
    · rw [← h3]; rfl
    · rw [← h4]; rfl
    · rw [← h5]; rfl
    · rw [← h6]; rfl)
  have HLS : Hid (∀ k : Nat, k < 7 → (([X0, X1, X2, X3, X4, X5, X6] : List Bs)[k]?.getD []).length ≤ 4000000) := Lib.hid (fun k hk => by
    have hk' : k < ([X0, X1, X2, X3, X4, X5, X6] : List Bs).length := hk
    rw [List.getElem?_eq_getElem hk']
    exact HL.out _ (List.getElem_mem hk'))
  generalize ([X0, X1, X2, X3, X4, X5, X6] : List Bs) = XS at HYS HLS
  clear b1 t1 hm hn hw hl h0 h1 h2 h3 h4 h5 h6 HL
  go_enter Tryz.func3, Tryz.ntmps3
  go_upto_region 1 with (fail)
  refine held_begin (fun u => u.cell? ⟨q, 0, none⟩ = some va ∧ u.cell? ⟨q, 1, none⟩ = some vb) (by kernel_rfl) ?_
  have U0 : Hid (Turn Nn w w1.drew) := Lib.hid T1.out.drew
  have C0 : Hid (World.cell? w1.drew ⟨q, 0, none⟩ = some va ∧ World.cell? w1.drew ⟨q, 1, none⟩ = some vb) := Lib.hid (two_turn B1.out (Turn.refl Nn w1).drew)
  generalize World.drew w1 = ws at U0 C0 ⊢
  refine held_take 0 ?_ rfl (by kernel_rfl) (by kernel_rfl) (by kernel_rfl) (fun _ _ _ h => h) (Or.inl ⟨by kernel_rfl, ?_⟩) C0.out ?_
  rotate_left 1
  · intro u hu; obtain ⟨a0, a1⟩ := hu; go_simp; first | done | with_reducible rfl
  try simp only [Act.put, List.getElem_toArray, List.getElem_cons_succ, List.getElem_cons_zero, List.setIfInBounds_toArray, List.set_cons_succ, List.set_cons_zero]
  refine held_take 1 ?_ rfl (by kernel_rfl) (by kernel_rfl) (by kernel_rfl) (fun _ _ _ h => h) (Or.inl ⟨by kernel_rfl, ?_⟩) C0.out ?_
  rotate_left 1
  · intro u hu; obtain ⟨a0, a1⟩ := hu; go_simp; first | done | with_reducible rfl
  try simp only [Act.put, List.getElem_toArray, List.getElem_cons_succ, List.getElem_cons_zero, List.setIfInBounds_toArray, List.set_cons_succ, List.set_cons_zero]
  refine held_take 2 ?_ rfl (by kernel_rfl) (by kernel_rfl) (by kernel_rfl) (fun _ _ _ h => h) (Or.inl ⟨by kernel_rfl, ?_⟩) C0.out ?_
  rotate_left 1
  · intro u hu; obtain ⟨a0, a1⟩ := hu; go_simp; first | done | with_reducible rfl
  try simp only [Act.put, List.getElem_toArray, List.getElem_cons_succ, List.getElem_cons_zero, List.setIfInBounds_toArray, List.set_cons_succ, List.set_cons_zero]
  refine held_take 3 ?_ rfl (by kernel_rfl) (by kernel_rfl) (by kernel_rfl) (fun _ _ _ h => h) (Or.inl ⟨by kernel_rfl, ?_⟩) C0.out ?_
  rotate_left 1
  · intro u hu; obtain ⟨a0, a1⟩ := hu; go_simp; first | done | with_reducible rfl
  try simp only [Act.put, List.getElem_toArray, List.getElem_cons_succ, List.getElem_cons_zero, List.setIfInBounds_toArray, List.set_cons_succ, List.set_cons_zero]
  refine held_take 4 ?_ rfl (by kernel_rfl) (by kernel_rfl) (by kernel_rfl) (fun _ _ _ h => h) (Or.inl ⟨by kernel_rfl, ?_⟩) C0.out ?_
  rotate_left 1
  · intro u hu; obtain ⟨a0, a1⟩ := hu; go_simp; first | done | with_reducible rfl
  try simp only [Act.put, List.getElem_toArray, List.getElem_cons_succ, List.getElem_cons_zero, List.setIfInBounds_toArray, List.set_cons_succ, List.set_cons_zero]
  refine held_take 5 ?_ rfl (by kernel_rfl) (by kernel_rfl) (by kernel_rfl) (fun _ _ _ h => h) (Or.inl ⟨by kernel_rfl, ?_⟩) C0.out ?_
  rotate_left 1
  · intro u hu; obtain ⟨a0, a1⟩ := hu; go_simp; first | done | with_reducible rfl
  try simp only [Act.put, List.getElem_toArray, List.getElem_cons_succ, List.getElem_cons_zero, List.setIfInBounds_toArray, List.set_cons_succ, List.set_cons_zero]
  refine held_take 6 ?_ rfl (by kernel_rfl) (by kernel_rfl) (by kernel_rfl) (fun _ _ _ h => h) (Or.inl ⟨by kernel_rfl, ?_⟩) C0.out ?_
  rotate_left 1
  · intro u hu; obtain ⟨a0, a1⟩ := hu; go_simp; first | done | with_reducible rfl
  try simp only [Act.put, List.getElem_toArray, List.getElem_cons_succ, List.getElem_cons_zero, List.setIfInBounds_toArray, List.set_cons_succ, List.set_cons_zero]
  refine held_take 7 ?_ rfl (by kernel_rfl) (by kernel_rfl) (by kernel_rfl) (fun _ _ _ h => h) (Or.inl ⟨by kernel_rfl, ?_⟩) C0.out ?_
  rotate_left 1
  · intro u hu; obtain ⟨a0, a1⟩ := hu; go_simp; first | done | with_reducible rfl
  try simp only [Act.put, List.getElem_toArray, List.getElem_cons_succ, List.getElem_cons_zero, List.setIfInBounds_toArray, List.set_cons_succ, List.set_cons_zero]
  refine held_take 8 ?_ rfl (by kernel_rfl) (by kernel_rfl) (by kernel_rfl) (fun _ _ _ h => h) (Or.inl ⟨by kernel_rfl, ?_⟩) C0.out ?_
  rotate_left 1
  · intro u hu; obtain ⟨a0, a1⟩ := hu; go_simp; first | done | with_reducible rfl
  try simp only [Act.put, List.getElem_toArray, List.getElem_cons_succ, List.getElem_cons_zero, List.setIfInBounds_toArray, List.set_cons_succ, List.set_cons_zero]
  refine held_take 9 ?_ rfl (by kernel_rfl) (by kernel_rfl) (by kernel_rfl) (fun _ _ _ h => h) (Or.inl ⟨by kernel_rfl, ?_⟩) C0.out ?_
  rotate_left 1
  · intro u hu; obtain ⟨a0, a1⟩ := hu; go_simp; first | done | with_reducible rfl
  try simp only [Act.put, List.getElem_toArray, List.getElem_cons_succ, List.getElem_cons_zero, List.setIfInBounds_toArray, List.set_cons_succ, List.set_cons_zero]
  refine held_take 10 ?_ rfl (by kernel_rfl) (by kernel_rfl) (by kernel_rfl) (fun _ _ _ h => h) (Or.inl ⟨by kernel_rfl, ?_⟩) C0.out ?_
  rotate_left 1
  · intro u hu; obtain ⟨a0, a1⟩ := hu; go_simp; first | done | with_reducible rfl
  try simp only [Act.put, List.getElem_toArray, List.getElem_cons_succ, List.getElem_cons_zero, List.setIfInBounds_toArray, List.set_cons_succ, List.set_cons_zero]
  refine held_take 11 ?_ rfl (by kernel_rfl) (by kernel_rfl) (by kernel_rfl) (fun _ _ _ h => h) (Or.inl ⟨by kernel_rfl, ?_⟩) C0.out ?_
  rotate_left 1
  · intro u hu; obtain ⟨a0, a1⟩ := hu; go_simp; first | done | with_reducible rfl
  try simp only [Act.put, List.getElem_toArray, List.getElem_cons_succ, List.getElem_cons_zero, List.setIfInBounds_toArray, List.set_cons_succ, List.set_cons_zero]
  refine held_take 13 ?_ rfl (by kernel_rfl) (by kernel_rfl) (by kernel_rfl) (fun _ _ _ h => h) (Or.inl ⟨by kernel_rfl, ?_⟩) C0.out ?_
  rotate_left 1
  · intro u hu; obtain ⟨a0, a1⟩ := hu; go_simp; first | done | with_reducible rfl
  try simp only [Act.put, List.getElem_toArray, List.getElem_cons_succ, List.getElem_cons_zero, List.setIfInBounds_toArray, List.set_cons_succ, List.set_cons_zero]
  refine held_take 14 ?_ rfl (by kernel_rfl) (by kernel_rfl) (by kernel_rfl) (fun _ _ _ h => h) (Or.inl ⟨by kernel_rfl, ?_⟩) C0.out ?_
  rotate_left 1
  · intro u hu; obtain ⟨a0, a1⟩ := hu; go_simp; first | done | with_reducible rfl
  try simp only [Act.put, List.getElem_toArray, List.getElem_cons_succ, List.getElem_cons_zero, List.setIfInBounds_toArray, List.set_cons_succ, List.set_cons_zero]
  refine held_take 16 ?_ rfl (by kernel_rfl) (by kernel_rfl) (by kernel_rfl) (fun _ _ _ h => h) (Or.inl ⟨by kernel_rfl, ?_⟩) C0.out ?_
  rotate_left 1
  · intro u hu; obtain ⟨a0, a1⟩ := hu; go_simp; first | done | with_reducible rfl
  try simp only [Act.put, List.getElem_toArray, List.getElem_cons_succ, List.getElem_cons_zero, List.setIfInBounds_toArray, List.set_cons_succ, List.set_cons_zero]
  refine held_take 17 ?_ rfl (by kernel_rfl) (by kernel_rfl) (by kernel_rfl) (fun _ _ _ h => h) (Or.inl ⟨by kernel_rfl, ?_⟩) C0.out ?_
  rotate_left 1
  · intro u hu; obtain ⟨a0, a1⟩ := hu; go_simp; first | done | with_reducible rfl
  try simp only [Act.put, List.getElem_toArray, List.getElem_cons_succ, List.getElem_cons_zero, List.setIfInBounds_toArray, List.set_cons_succ, List.set_cons_zero]
  refine held_take 19 ?_ rfl (by kernel_rfl) (by kernel_rfl) (by kernel_rfl) (fun _ _ _ h => h) (Or.inl ⟨by kernel_rfl, ?_⟩) C0.out ?_
  rotate_left 1
  · intro u hu; obtain ⟨a0, a1⟩ := hu; go_simp; first | done | with_reducible rfl
  try simp only [Act.put, List.getElem_toArray, List.getElem_cons_succ, List.getElem_cons_zero, List.setIfInBounds_toArray, List.set_cons_succ, List.set_cons_zero]
  refine held_take 20 ?_ rfl (by kernel_rfl) (by kernel_rfl) (by kernel_rfl) (fun _ _ _ h => h) (Or.inl ⟨by kernel_rfl, ?_⟩) C0.out ?_
  rotate_left 1
  · intro u hu; obtain ⟨a0, a1⟩ := hu; go_simp; first | done | with_reducible rfl
  try simp only [Act.put, List.getElem_toArray, List.getElem_cons_succ, List.getElem_cons_zero, List.setIfInBounds_toArray, List.set_cons_succ, List.set_cons_zero]
  refine held_take 22 ?_ rfl (by kernel_rfl) (by kernel_rfl) (by kernel_rfl) (fun _ _ _ h => h) (Or.inl ⟨by kernel_rfl, ?_⟩) C0.out ?_
  rotate_left 1
  · intro u hu; obtain ⟨a0, a1⟩ := hu; go_simp; first | done | with_reducible rfl
  try simp only [Act.put, List.getElem_toArray, List.getElem_cons_succ, List.getElem_cons_zero, List.setIfInBounds_toArray, List.set_cons_succ, List.set_cons_zero]
  refine held_take 23 ?_ rfl (by kernel_rfl) (by kernel_rfl) (by kernel_rfl) (fun _ _ _ h => h) (Or.inl ⟨by kernel_rfl, ?_⟩) C0.out ?_
  rotate_left 1
  · intro u hu; obtain ⟨a0, a1⟩ := hu; go_simp; first | done | with_reducible rfl
  try simp only [Act.put, List.getElem_toArray, List.getElem_cons_succ, List.getElem_cons_zero, List.setIfInBounds_toArray, List.set_cons_succ, List.set_cons_zero]
  refine held_call 12 (by kernel_rfl) rfl (by kernel_rfl) (by first | rfl | go_simp) (n2 _ U0.out) ?_ (fun c u h => by cases h.1) (fun u h => by cases h.1)
  rintro v u ⟨he, t⟩
  cases he
  have U1 := Lib.hid (U0.out.trans t)
  have C1 := Lib.hid (two_turn C0.out t)
  clear t
  refine ⟨C1.out, ?_⟩
  try simp only [Act.put, List.getElem_toArray, List.getElem_cons_succ, List.getElem_cons_zero, List.setIfInBounds_toArray, List.set_cons_succ, List.set_cons_zero]
  refine held_call 15 (by kernel_rfl) rfl (by kernel_rfl) (by first | rfl | go_simp) (n3 _ U1.out) ?_ (fun c u h => by cases h.1) (fun u h => by cases h.1)
  rintro v u ⟨he, t⟩
  cases he
  have U2 := Lib.hid (U1.out.trans t)
  have C2 := Lib.hid (two_turn C1.out t)
  clear t
  refine ⟨C2.out, ?_⟩
  try simp only [Act.put, List.getElem_toArray, List.getElem_cons_succ, List.getElem_cons_zero, List.setIfInBounds_toArray, List.set_cons_succ, List.set_cons_zero]
  refine held_call 18 (by kernel_rfl) rfl (by kernel_rfl) (by first | rfl | go_simp) (n4 _ U2.out) ?_ (fun c u h => by cases h.1) (fun u h => by cases h.1)
  rintro v u ⟨he, t⟩
  cases he
  have U3 := Lib.hid (U2.out.trans t)
  have C3 := Lib.hid (two_turn C2.out t)
  clear t
  refine ⟨C3.out, ?_⟩
  try simp only [Act.put, List.getElem_toArray, List.getElem_cons_succ, List.getElem_cons_zero, List.setIfInBounds_toArray, List.set_cons_succ, List.set_cons_zero]
  refine held_call 21 (by kernel_rfl) rfl (by kernel_rfl) (by first | rfl | go_simp) (n5 _ U3.out) ?_ (fun c u h => by cases h.1) (fun u h => by cases h.1)
  rintro v u ⟨he, t⟩
  cases he
  have U4 := Lib.hid (U3.out.trans t)
  have C4 := Lib.hid (two_turn C3.out t)
  clear t
  refine ⟨C4.out, ?_⟩
  try simp only [Act.put, List.getElem_toArray, List.getElem_cons_succ, List.getElem_cons_zero, List.setIfInBounds_toArray, List.set_cons_succ, List.set_cons_zero]
  refine held_call 24 (by kernel_rfl) rfl (by kernel_rfl) (by first | rfl | go_simp) (n6 _ U4.out) ?_ (fun c u h => by cases h.1) (fun u h => by cases h.1)
  rintro v u ⟨he, t⟩
  cases he
  have U5 := Lib.hid (U4.out.trans t)
  have C5 := Lib.hid (two_turn C4.out t)
  clear t
  refine ⟨C5.out, ?_⟩
  try simp only [Act.put, List.getElem_toArray, List.getElem_cons_succ, List.getElem_cons_zero, List.setIfInBounds_toArray, List.set_cons_succ, List.set_cons_zero]


  obtain ⟨wL, eL⟩ : ∃ x, u.alloc (.cells #[.string Y0, .string Y1, .string Y2, .string Y3, .string Y4, .string Y5, .string Y6] 9) = x := ⟨_, rfl⟩
  obtain ⟨bL, tL⟩ := alloc1 eL
  obtain ⟨qL, hqL⟩ : ∃ x, u.heap.size = x := ⟨_, rfl⟩
  rw [hqL] at bL
  have CL : Hid (∀ k : Nat, k < 7 → ∀ u : World, Turn Nn wL u → u.cell? ⟨qL, k, none⟩ = some (.string (BT (XS[k]?.getD [])))) := Lib.hid (by
    intro k hk u tu
    rw [cell_turn tu ((cell_blk bL).trans (show (#[.string Y0, .string Y1, .string Y2, .string Y3, .string Y4, .string Y5, .string Y6] : Array Value)[k]? = some (.string (BT (XS[k]?.getD []))) from ?_))]
    have h := HYS.out k hk
    have e : (#[.string Y0, .string Y1, .string Y2, .string Y3, .string Y4, .string Y5, .string Y6] : Array Value) = (([Y0, Y1, Y2, Y3, Y4, Y5, Y6] : List ByteArray).map Value.string).toArray := rfl
    rw [e, List.getElem?_toArray, List.getElem?_map, h]
    rfl)
  have TL : Hid (Turn Nn w wL) := Lib.hid (U5.out.trans tL)
  refine held_one 25 (by kernel_rfl) rfl (by kernel_rfl) (fun K hK => ?_)
  go_simp
  refine hK _ _ (two_turn C5.out tL) ?_
  clear hK K
  try simp only [Act.put, List.getElem_toArray, List.getElem_cons_succ, List.getElem_cons_zero, List.setIfInBounds_toArray, List.set_cons_succ, List.set_cons_zero]
  refine held_take 26 ?_ rfl (by kernel_rfl) (by kernel_rfl) (by kernel_rfl) (fun _ _ _ h => h) (Or.inl ⟨by kernel_rfl, ?_⟩) (two_turn C5.out tL) ?_
  rotate_left 1
  · intro u hu; go_simp; first | done | with_reducible rfl
  try simp only [Act.put, List.getElem_toArray, List.getElem_cons_succ, List.getElem_cons_zero, List.setIfInBounds_toArray, List.set_cons_succ, List.set_cons_zero]
  refine wpAnyH_done (by kernel_rfl) ?_ _
  clear U0 U1 U2 U3 U4 U5 C0 C1 C2 C3 C4 C5 B1 T1 bL tL eL hqL HYS n2 n3 n4 n5 n6 hmin1 hmin2 ea eb
  go_wp2_with fail
  go_loopw [8] (fun i wr => ∃ k : Nat, k ≤ 7 ∧ i = .int .i64 k ∧ Turn Nn wL wr) (fun i _ => 7 - (intOf i).toNat)
  case atStart => exact ⟨0, by omega, rfl, Turn.refl _ _⟩
  case round =>
    obtain ⟨k, hk, rfl, ht⟩ := hrel
    have TK := Lib.hid ht
    clear ht
    by_cases hlt : k < 7
    · have hltI : (k : Int) < 7 := by omega
      have y := CL.out k hlt _ TK.out
      have hXl := HLS.out k hlt
      generalize XS[k]?.getD [] = X at y hXl
      obtain ⟨c, d, z, hE⟩ := endA_three X
      have G10 : Hid (Gives w 10 #[.string (BT X)] (.tuple #[.string c, .int .i64 d, .bool z])) := Lib.hid (fun u t => by have := end_any hXl (HW.out.turn t); rw [hE] at this; exact this)
      have G11 : Hid (Gives w 11 #[.string (BT X)] (.tuple #[.string c, .int .i64 d, .bool z])) := Lib.hid (fun u t => by have := refEnd_any hXl u; rw [hE] at this; exact this)
      have G12 : Hid (Gives w 12 #[.string (BT X)] (.bool (actorL X))) := Lib.hid (fun u t => actor_any hXl (HW.out.turn t))
      have G13 : Hid (Gives w 13 #[.string (BT X)] (.bool (actorL X))) := Lib.hid (fun u t => refActor_any hXl u)
      have G14 : Hid (Gives w 14 #[.string (BT X)] (.bool (chanL X))) := Lib.hid (fun u t => chan_any hXl (HW.out.turn t))
      have G15 : Hid (Gives w 15 #[.string (BT X)] (.bool (chanL X))) := Lib.hid (fun u t => refChan_any hXl u)
      have G16 : Hid (Gives w 16 #[.string (BT X)] (.string (BT (parentL X)))) := Lib.hid (fun u t => parent_any hXl (HW.out.turn t))
      have G17 : Hid (Gives w 17 #[.string (BT X)] (.string (BT (parentL X)))) := Lib.hid (fun u t => refParent_any hXl u)
      have GLE : Hid (∀ Y : Bs, Y.length ≤ 4000000 → Gives w 18 #[.string (BT X), .string (BT Y)] (.bool (lessL X Y)) ∧ Gives w 19 #[.string (BT X), .string (BT Y)] (.bool (lessL X Y))) := Lib.hid (fun Y hY => ⟨fun u t => less_any hXl hY (HW.out.turn t), fun u t => by have := refLess_any hXl hY (w := u); rw [refLess_eq] at this; exact this⟩)
      clear hE hXl
      generalize actorL X = za at G12 G13
      generalize chanL X = zc at G14 G15
      generalize BT (parentL X) = PX at G16 G17
      obtain ⟨BX, hBX⟩ : ∃ BX, BT X = BX := ⟨_, rfl⟩
      rw [hBX] at y G10 G11 G12 G13 G14 G15 G16 G17
      simp only [hBX] at GLE
      clear hBX
      have S0 : Hid (Turn Nn w wr) := Lib.hid (TL.out.trans TK.out)
      go_wp2_with fail
      refine (G10.out _ S0.out).mono ?_
      rintro e x0 ⟨rfl, t⟩
      have S1 := Lib.hid (S0.out.trans t)
      have TK0 := Lib.hid (TK.out.trans t)
      clear t
      clear y
      go_wp2_with fail
      refine (G11.out _ S1.out).mono ?_
      rintro e x1 ⟨rfl, t⟩
      have S2 := Lib.hid (S1.out.trans t)
      have TK1 := Lib.hid (TK0.out.trans t)
      clear t
      go_wp2_with fail
      refine (G12.out _ S2.out).mono ?_
      rintro e x2 ⟨rfl, t⟩
      have S3 := Lib.hid (S2.out.trans t)
      have TK2 := Lib.hid (TK1.out.trans t)
      clear t
      go_wp2_with fail
      refine (G13.out _ S3.out).mono ?_
      rintro e x3 ⟨rfl, t⟩
      have S4 := Lib.hid (S3.out.trans t)
      have TK3 := Lib.hid (TK2.out.trans t)
      clear t
      go_wp2_with fail
      refine (G14.out _ S4.out).mono ?_
      rintro e x4 ⟨rfl, t⟩
      have S5 := Lib.hid (S4.out.trans t)
      have TK4 := Lib.hid (TK3.out.trans t)
      clear t
      go_wp2_with fail
      refine (G15.out _ S5.out).mono ?_
      rintro e x5 ⟨rfl, t⟩
      have S6 := Lib.hid (S5.out.trans t)
      have TK5 := Lib.hid (TK4.out.trans t)
      clear t
      go_wp2_with fail
      refine (G16.out _ S6.out).mono ?_
      rintro e x6 ⟨rfl, t⟩
      have S7 := Lib.hid (S6.out.trans t)
      have TK6 := Lib.hid (TK5.out.trans t)
      clear t
      go_wp2_with fail
      refine (G17.out _ S7.out).mono ?_
      rintro e x7 ⟨rfl, t⟩
      have S8 := Lib.hid (S7.out.trans t)
      have TK7 := Lib.hid (TK6.out.trans t)
      clear t
      go_wp2_with fail
      clear G10 G11 G12 G13 G14 G15 G16 G17
      go_loopw [16] (fun i wr => ∃ m : Nat, m ≤ 7 ∧ i = .int .i64 m ∧ Turn Nn wL wr) (fun i _ => 7 - (intOf i).toNat)
      case atStart => exact ⟨0, by omega, rfl, TK7.out⟩
      case round =>
        obtain ⟨m, hm, rfl, ht⟩ := hrel
        have TM := Lib.hid ht
        clear ht
        by_cases hmt : m < 7
        · have hmtI : (m : Int) < 7 := by omega
          have y := CL.out m hmt _ TM.out
          obtain ⟨G18, G19⟩ := GLE.out _ (HLS.out m hmt)
          generalize lessL X (XS[m]?.getD []) = zl at G18 G19
          generalize BT (XS[m]?.getD []) = BY at y G18 G19
          have H18 := Lib.hid G18
          have H19 := Lib.hid G19
          clear G18 G19
          go_upto_region 13 with (fail)
          refine held_begin (fun u => u.cell? ⟨qL, m, none⟩ = some (.string BY)) (by kernel_rfl) ?_
          generalize hws : World.drew _ = ws2
          have V0 : Hid (Turn Nn wL ws2) := Lib.hid (by rw [← hws]; exact TM.out.drew)
          have D0 : Hid (ws2.cell? ⟨qL, m, none⟩ = some (.string BY)) := Lib.hid (by rw [← hws]; exact cell_turn (Turn.refl Nn _).drew y)
          have R0 : Hid (Turn Nn w ws2) := Lib.hid (TL.out.trans V0.out)
          clear hws y
          refine held_take 0 ?_ rfl (by kernel_rfl) (by kernel_rfl) (by kernel_rfl) (fun _ _ _ h => h) (Or.inl ⟨by kernel_rfl, ?_⟩) D0.out ?_
          rotate_left 1
          · intro u hu; go_simp; first | done | with_reducible rfl
          try simp only [Act.put, List.getElem_toArray, List.getElem_cons_succ, List.getElem_cons_zero, List.setIfInBounds_toArray, List.set_cons_succ, List.set_cons_zero]
          refine held_take 1 ?_ rfl (by kernel_rfl) (by kernel_rfl) (by kernel_rfl) (fun _ _ _ h => h) (Or.inl ⟨by kernel_rfl, ?_⟩) D0.out ?_
          rotate_left 1
          · intro u hu; go_simp; first | done | with_reducible rfl
          try simp only [Act.put, List.getElem_toArray, List.getElem_cons_succ, List.getElem_cons_zero, List.setIfInBounds_toArray, List.set_cons_succ, List.set_cons_zero]
          refine held_take 2 ?_ rfl (by kernel_rfl) (by kernel_rfl) (by kernel_rfl) (fun _ _ _ h => h) (Or.inl ⟨by kernel_rfl, ?_⟩) D0.out ?_
          rotate_left 1
          · intro u hu; go_simp; first | done | with_reducible rfl
          try simp only [Act.put, List.getElem_toArray, List.getElem_cons_succ, List.getElem_cons_zero, List.setIfInBounds_toArray, List.set_cons_succ, List.set_cons_zero]
          refine held_take 3 ?_ rfl (by kernel_rfl) (by kernel_rfl) (by kernel_rfl) (fun _ _ _ h => h) (Or.inl ⟨by kernel_rfl, ?_⟩) D0.out ?_
          rotate_left 1
          · intro u hu; go_simp; first | done | with_reducible rfl
          try simp only [Act.put, List.getElem_toArray, List.getElem_cons_succ, List.getElem_cons_zero, List.setIfInBounds_toArray, List.set_cons_succ, List.set_cons_zero]
          refine held_take 4 ?_ rfl (by kernel_rfl) (by kernel_rfl) (by kernel_rfl) (fun _ _ _ h => h) (Or.inl ⟨by kernel_rfl, ?_⟩) D0.out ?_
          rotate_left 1
          · intro u hu; go_simp; first | done | with_reducible rfl
          try simp only [Act.put, List.getElem_toArray, List.getElem_cons_succ, List.getElem_cons_zero, List.setIfInBounds_toArray, List.set_cons_succ, List.set_cons_zero]
          refine held_take 6 ?_ rfl (by kernel_rfl) (by kernel_rfl) (by kernel_rfl) (fun _ _ _ h => h) (Or.inl ⟨by kernel_rfl, ?_⟩) D0.out ?_
          rotate_left 1
          · intro u hu; go_simp; first | done | with_reducible rfl
          try simp only [Act.put, List.getElem_toArray, List.getElem_cons_succ, List.getElem_cons_zero, List.setIfInBounds_toArray, List.set_cons_succ, List.set_cons_zero]
          refine held_take 7 ?_ rfl (by kernel_rfl) (by kernel_rfl) (by kernel_rfl) (fun _ _ _ h => h) (Or.inl ⟨by kernel_rfl, ?_⟩) D0.out ?_
          rotate_left 1
          · intro u hu; go_simp; first | done | with_reducible rfl
          try simp only [Act.put, List.getElem_toArray, List.getElem_cons_succ, List.getElem_cons_zero, List.setIfInBounds_toArray, List.set_cons_succ, List.set_cons_zero]
          refine held_take 8 ?_ rfl (by kernel_rfl) (by kernel_rfl) (by kernel_rfl) (fun _ _ _ h => h) (Or.inl ⟨by kernel_rfl, ?_⟩) D0.out ?_
          rotate_left 1
          · intro u hu; go_simp; first | done | with_reducible rfl
          try simp only [Act.put, List.getElem_toArray, List.getElem_cons_succ, List.getElem_cons_zero, List.setIfInBounds_toArray, List.set_cons_succ, List.set_cons_zero]
          refine held_take 9 ?_ rfl (by kernel_rfl) (by kernel_rfl) (by kernel_rfl) (fun _ _ _ h => h) (Or.inl ⟨by kernel_rfl, ?_⟩) D0.out ?_
          rotate_left 1
          · intro u hu; go_simp; first | done | with_reducible rfl
          try simp only [Act.put, List.getElem_toArray, List.getElem_cons_succ, List.getElem_cons_zero, List.setIfInBounds_toArray, List.set_cons_succ, List.set_cons_zero]
          refine held_take 10 ?_ rfl (by kernel_rfl) (by kernel_rfl) (by kernel_rfl) (fun _ _ _ h => h) (Or.inl ⟨by kernel_rfl, ?_⟩) D0.out ?_
          rotate_left 1
          · intro u hu; go_simp; first | done | with_reducible rfl
          try simp only [Act.put, List.getElem_toArray, List.getElem_cons_succ, List.getElem_cons_zero, List.setIfInBounds_toArray, List.set_cons_succ, List.set_cons_zero]
          refine held_call 5 (by kernel_rfl) rfl (by kernel_rfl) (by first | rfl | go_simp) (H18.out _ R0.out) ?_ (fun c u h => by cases h.1) (fun u h => by cases h.1)
          rintro v u ⟨he, t⟩
          cases he
          have R1 := Lib.hid (R0.out.trans t)
          have V1 := Lib.hid (V0.out.trans t)
          have D1 := Lib.hid (cell_turn t D0.out)
          clear t
          refine ⟨D1.out, ?_⟩
          try simp only [Act.put, List.getElem_toArray, List.getElem_cons_succ, List.getElem_cons_zero, List.setIfInBounds_toArray, List.set_cons_succ, List.set_cons_zero]
          refine held_call 11 (by kernel_rfl) rfl (by kernel_rfl) (by first | rfl | go_simp) (H19.out _ R1.out) ?_ (fun c u h => by cases h.1) (fun u h => by cases h.1)
          rintro v u ⟨he, t⟩
          cases he
          have R2 := Lib.hid (R1.out.trans t)
          have V2 := Lib.hid (V1.out.trans t)
          have D2 := Lib.hid (cell_turn t D1.out)
          clear t
          refine ⟨D2.out, ?_⟩
          try simp only [Act.put, List.getElem_toArray, List.getElem_cons_succ, List.getElem_cons_zero, List.setIfInBounds_toArray, List.set_cons_succ, List.set_cons_zero]
          refine held_take 12 ?_ rfl (by kernel_rfl) (by kernel_rfl) (by kernel_rfl) (fun _ _ _ h => h) (Or.inl ⟨by kernel_rfl, ?_⟩) D2.out ?_
          rotate_left 1
          · intro u hu; go_simp; first | done | with_reducible rfl
          try simp only [Act.put, List.getElem_toArray, List.getElem_cons_succ, List.getElem_cons_zero, List.setIfInBounds_toArray, List.set_cons_succ, List.set_cons_zero]
          refine wpAnyH_done (by kernel_rfl) ?_ _
          go_wp2_with fail
          go_roundw
          case rel => exact ⟨m + 1, by omega, by go_num, V2.out⟩
          case measure => simp [intOf]; omega
        · obtain rfl : m = 7 := by omega
          go_wp2_with fail
          go_roundw
          case rel => exact ⟨k + 1, by omega, by go_num, TM.out⟩
          case measure => simp [intOf]; omega
    · obtain rfl : k = 7 := by omega
      go_wp2_with fail
      refine (works_any (HW.out.turn (TL.out.trans TK.out))).mono ?_
      rintro e x ⟨rfl, t⟩
      have TE := Lib.hid ((TL.out.trans TK.out).trans t)
      clear t
      go_wp2_with fail
      go_ret
      exact ⟨rfl, TE.out⟩
end
section
set_option linter.unusedSimpArgs false
set_option linter.unusedVariables false
open Go.ChangeShapes Go.WideShapes Go.ChangeAt Go.RowKit

theorem cut1000 {s : Bs} : (BT s).extract 0 (min (BT s).size 1000) = BT (s.take 1000) := by
  rw [BT_size, BT_ext_take (l := s) (k := min s.length 1000) (by omega)]
  congr 1
  by_cases h1 : s.length ≤ 1000
  · rw [Nat.min_eq_left h1, List.take_length, List.take_of_length_le h1]
  · rw [Nat.min_eq_right (by omega)]
theorem told_any {a b : Bs} {va vb : Value} {l0 l1 : List Nat} {w : World} (hw : Laid w) (h0 : ByteSl w va l0) (h1 : ByteSl w vb l1) (ha : a.length ≤ 9223372036854775807) (hb : b.length ≤ 9223372036854775807) :
    Calls Tryz.prog 3 #[.string (BT a), .string (BT b), .agg #[va, vb]] w fun e w' => e = .returned (.bool true) ∧ Turn Nn w w' := by
  have sa := BT_size a
  have sb := BT_size b
  have la : (a.take 1000).length ≤ 1000 := by rw [List.length_take]; omega
  have lb : (b.take 1000).length ≤ 1000 := by rw [List.length_take]; omega
  have n2 := name0_len h0.1
  have n3 := name0_len h1.1
  have n4 := name1_len h0.1
  have n5 := name1_len h1.1
  have n6 := name2_len h0.1
  refine told_walk hw (gives_name0 h0) (gives_name0 h1) (gives_name1 h0) (gives_name1 h1) (gives_name2 h0) cut1000 cut1000 (by omega) (by omega) ?_
  intro x hx
  simp only [List.mem_cons, List.not_mem_nil, or_false] at hx
  rcases hx with rfl | rfl | rfl | rfl | rfl | rfl | rfl <;> omega

theorem cellsOf23 : Tryz.prog.cellsOf 23 = 2 := by kernel_rfl
set_option maxRecDepth 100000 in
theorem two_came {H : Type} {enc : TypeId × Value → H} {W : World} {base : Nat} {v : Value} {d : DataW H} {ps : List MemPlace}
    (hv : Value.okWide Tryz.prog W .any base 23 v) (h : DataW.Trod enc Tryz.prog W 0 (fun _ => true) true 23 v d ps) :
    ∃ (v0 v1 : Value) (l0 l1 : List Nat), v = .agg #[v0, v1] ∧ ByteSl W v0 l0 ∧ ByteSl W v1 l1 := by
  obtain ⟨⟨L⟩, rfl, hsz⟩ := okWide_arr Tryz.underlying23 hv
  obtain ⟨fuel, hf⟩ := h
  rw [cellsOf23] at hsz
  have hL : L.length = 2 := by simpa using hsz
  match L, hL with
  | [c0, c1], _ =>
    replace hf : DataW.trod enc Tryz.prog W 0 (fun _ => true) true fuel 23 [c0, c1] = some (d, ps) := hf
    obtain ⟨zs, m, _, _, _, hxs, heach⟩ := DataW.trod_array Tryz.underlying23 hf
    have k0 := heach 0 (by omega)
    have k1 := heach 1 (by omega)
    rw [cellsOf22, List.getElem?_eq_getElem (by omega)] at k0 k1
    obtain ⟨l0, h0⟩ := ByteSl.came k0
    obtain ⟨l1, h1⟩ := ByteSl.came k1
    exact ⟨c0, c1, l0, l1, rfl, h0, h1⟩
theorem bt_data (s : ByteArray) : BT s.data.toList = s := by cases s; unfold BT; simp
end
end Go.Proofs.YtpbjblbeepbklaaGreatDoor
