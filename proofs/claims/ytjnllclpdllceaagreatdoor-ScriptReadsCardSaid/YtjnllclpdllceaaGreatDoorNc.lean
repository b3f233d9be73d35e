/- The document's Same; a text changed. Printed by gen_na.py. reads: what a text is read as, is as the document says. ScriptReads' walk. -/
import Derived.Test.YtjnllclpdllceaaGreatDoorMh
import Derived.Test.YtjnllclpdllceaaGreatDoorPb
namespace Go.Proofs.YtjnllclpdllceaaGreatDoor
set_option linter.unusedSimpArgs false
set_option linter.unusedVariables false
open Go.RowKit Go.Shelf


set_option maxRecDepth 100000 in
set_option maxHeartbeats 8000000 in
theorem refSame_any {s : ScriptD} {v1 v2 : Value} {w : World} (h1 : TSl w v1 s.turns) (h2 : TSl w v2 s.turns) (hn : s.turns.length ≤ 1000000) :
    Calls Tryz.prog 34 #[.agg (scriptA s v1), .agg (scriptA s v2)] w fun e w' => e = .returned (.bool true) ∧ Turn Nn w w' := by
  obtain ⟨w1, hw1⟩ : ∃ w1, (w.alloc (.cells (scriptA s v1) 26)).alloc (.cells (scriptA s v2) 26) = w1 := ⟨_, rfl⟩
  obtain ⟨b0, b1, t1⟩ := alloc2 hw1
  have H1 := Lib.hid (h1.turn t1)
  have H2 := Lib.hid (h2.turn t1)
  have HT := Lib.hid t1
  obtain ⟨M, hM⟩ : ∃ M, BT s.mod = M := ⟨_, rfl⟩
  obtain ⟨N, hN⟩ : ∃ N, s.turns.length = N := ⟨_, rfl⟩
  obtain ⟨pa, ca, e1⟩ := h1.shape
  obtain ⟨pb, cb, e2⟩ := h2.shape
  have HN := Lib.hid hN
  rw [hN] at hn e1 e2
  simp only [scriptA, hM] at b0 b1 hw1 ⊢
  subst e1 e2
  clear h1 h2 t1 hM hN
  obtain ⟨c0, c1, c2, c3, c4, c5⟩ := cells6 b0
  obtain ⟨d0, d1, d2, d3, d4, d5⟩ := cells6 b1
  have F0 := Lib.hid b0
  have F1 := Lib.hid b1
  clear b0 b1
  go_enter Tryz.func34, Tryz.ntmps34
  go_wp2_with fail
  clear c0 c1 c2 c3 c4 c5 d0 d1 d2 d3 d4 d5 hw1
  go_loopw [5] (fun i wr => ∃ k : Nat, k ≤ N ∧ i = .int .i64 k ∧ Turn Nn w1 wr) (fun i _ => N - (intOf i).toNat)
  case atStart => exact ⟨0, by omega, rfl, Turn.refl Nn w1⟩
  case round =>
    obtain ⟨k, hk, rfl, tr⟩ := hrel
    have TR := Lib.hid tr
    obtain ⟨c0, c1, c2, c3, c4, c5⟩ := cells6 ((tr.block _ (heap_lt F0.out) (fun h => h)).trans F0.out)
    obtain ⟨d0, d1, d2, d3, d4, d5⟩ := cells6 ((tr.block _ (heap_lt F1.out) (fun h => h)).trans F1.out)
    clear c0 c1 c2 c3 c4 d0 d1 d2 d3 d4
    by_cases hlt : k < N
    · have hkt : k < s.turns.length := by rw [HN.out]; exact hlt
      obtain ⟨ba, oa, cca, ea, la, x0, x1, x2⟩ := TSl.cells (H1.out.turn tr) hkt
      obtain ⟨bb, ob, ccb, eb, lb, y0, y1, y2⟩ := TSl.cells (H2.out.turn tr) hkt
      rw [HN.out] at ea eb la lb
      cases ea
      cases eb
      obtain ⟨T, hT⟩ : ∃ T, s.turns[k] = T := ⟨_, rfl⟩
      rw [hT] at x0 x1 x2 y0 y1 y2
      clear hT tr hkt
      go_wp2_with fail
      go_quiet (fail)
      go_wp2_with fail
      exact ⟨⟨k + 1, by omega, rfl, TR.out.drewN _⟩, by simp only [intOf]; omega⟩
    · have hek : k = N := by omega
      subst hek
      have hnlt : ¬ ((k : Int) < (k : Int)) := by omega
      clear tr
      go_wp2_with fail
      go_ret
      exact ⟨rfl, HT.out.trans TR.out⟩

theorem conv_byte {b : Nat} {W : World} {r : Nat} (h : W.heap[r]? = some (.cells #[.int .u8 (b : Int)] 5)) : (convert 28 9 (.slice (some ⟨r, 0, none⟩) 1 1)).run Tryz.prog W = .ok (.string (BT [UInt8.ofNat b])) W := by
  have := conv_one h
  rw [Int.toNat_natCast] at this
  exact this

set_option maxRecDepth 100000 in
set_option maxHeartbeats 16000000 in
theorem changed_any {t : Bs} {x a b : Nat} (hx : x < 256) (ha : a < 65536) (hb : b < 256) (hl : t.length ≤ 1000000) (w : World) :
    Calls Tryz.prog 13 #[.string (BT t), .agg #[.int .u8 (x : Int), .int .u16 (a : Int), .int .u8 (b : Int)]] w fun e w' => ∃ t', e = .returned (.string (BT t')) ∧ t'.length ≤ t.length + 1 ∧ Turn Nn w w' := by
  obtain ⟨w1, hw1⟩ : ∃ w1, w.alloc (.cells #[.int .u8 (x : Int), .int .u16 (a : Int), .int .u8 (b : Int)] 43) = w1 := ⟨_, rfl⟩
  obtain ⟨b1, t1⟩ := alloc1 hw1
  have T1 := Lib.hid t1
  obtain ⟨k0, k1, k2⟩ := cells3m b1
  have K2 := Lib.hid k2
  by_cases h0 : t = []
  · subst h0
    have hb0 : BT [] = ⟨#[]⟩ := rfl
    have hb0' : (⟨#[]⟩ : ByteArray) = BT [] := rfl
    have HBE := Lib.hid hb0'
    rw [hb0]
    clear b1 t1 hb0 hb0'
    go_enter Tryz.func13, Tryz.ntmps13
    go_wp2_with fail
    go_ret
    exact ⟨[], rfl, by simp, T1.out⟩
  have hpos : 1 ≤ t.length := List.length_pos_iff.2 h0
  obtain ⟨M, hM⟩ : ∃ M, BT t = M := ⟨_, rfl⟩
  have hMs : M.size = t.length := by rw [← hM, BT_size]
  obtain ⟨n, hn⟩ : ∃ n : Nat, a % t.length = n := ⟨_, rfl⟩
  have hnl : n < M.size := by rw [hMs, ← hn]; exact Nat.mod_lt _ hpos
  have hmod : (a : Int) % (M.size : Int) = (n : Int) := by rw [hMs, ← hn]; simp
  have htm : (a : Int).tmod (M.size : Int) = (n : Int) := by rw [Int.tmod_eq_emod_of_nonneg (by omega)]; exact hmod
  obtain ⟨A, hA⟩ : ∃ A, t.take n = A := ⟨_, rfl⟩
  obtain ⟨B, hB⟩ : ∃ B, t.drop n = B := ⟨_, rfl⟩
  obtain ⟨C, hC⟩ : ∃ C, t.drop (n + 1) = C := ⟨_, rfl⟩
  have cA : M.extract 0 n = BT A := by rw [← hM, ← hA, cut_mid (by omega) (by omega)]; simp
  have cB : M.extract n M.size = BT B := by
    rw [← hM, BT_size, cut_mid (by omega) (Nat.le_refl _), List.take_of_length_le (by simp), hB]
  have cC : M.extract (n + 1) M.size = BT C := by
    rw [← hM, BT_size, cut_mid (by omega) (Nat.le_refl _), List.take_of_length_le (by simp), hC]
  have lA : A.length ≤ t.length := by rw [← hA]; exact List.length_take_le' _ _
  have lAB : A.length + B.length = t.length := by rw [← hA, ← hB]; simp; omega
  have lC : C.length + n + 1 = t.length := by rw [← hC]; simp; omega
  have lA2 : A.length = n := by rw [← hA]; simp; omega
  have S1 : Hid (∀ W : World, (Op.stringOp .add (BT A) (BT [UInt8.ofNat b])).run Tryz.prog W = .ok (.string (BT (A ++ [UInt8.ofNat b]))) W) := Lib.hid (fun W => str_add rfl (by simp; omega) W)
  have S2 : Hid (∀ W : World, (Op.stringOp .add (BT (A ++ [UInt8.ofNat b])) (BT B)).run Tryz.prog W = .ok (.string (BT ((A ++ [UInt8.ofNat b]) ++ B))) W) := Lib.hid (fun W => str_add rfl (by simp; omega) W)
  have S3 : Hid (∀ W : World, (Op.stringOp .add (BT A) (BT C)).run Tryz.prog W = .ok (.string (BT (A ++ C))) W) := Lib.hid (fun W => str_add rfl (by omega) W)
  have S4 : Hid (∀ W : World, (Op.stringOp .add (BT (A ++ [UInt8.ofNat b])) (BT C)).run Tryz.prog W = .ok (.string (BT ((A ++ [UInt8.ofNat b]) ++ C))) W) := Lib.hid (fun W => str_add rfl (by simp; omega) W)
  obtain ⟨X1, hX1⟩ : ∃ X, A ++ [UInt8.ofNat b] = X := ⟨_, rfl⟩
  obtain ⟨X2, hX2⟩ : ∃ X, (A ++ [UInt8.ofNat b]) ++ B = X := ⟨_, rfl⟩
  obtain ⟨X3, hX3⟩ : ∃ X, A ++ C = X := ⟨_, rfl⟩
  obtain ⟨X4, hX4⟩ : ∃ X, (A ++ [UInt8.ofNat b]) ++ C = X := ⟨_, rfl⟩
  have HLX : Hid (X2.length ≤ t.length + 1) := Lib.hid (by rw [← hX2]; simp; omega)
  have HLY : Hid (X3.length ≤ t.length + 1) := Lib.hid (by rw [← hX3]; simp; omega)
  have HLZ : Hid (X4.length ≤ t.length + 1) := Lib.hid (by rw [← hX4]; simp; omega)
  have HLA : Hid (A.length ≤ t.length + 1) := Lib.hid (by omega)
  rw [hX2] at S2
  rw [hX4] at S4
  rw [hX1] at S1 S2 S4
  rw [hX3] at S3
  have hMl : M.size ≤ 1000000 := by omega
  have hMp : 1 ≤ M.size := by omega
  have hnl2 : n ≤ M.size := by omega
  have hnl3 : n + 1 ≤ M.size := by omega
  have hni2 : (n : Int) ≤ (M.size : Int) := by omega
  have hni3 : (n : Int) + 1 ≤ (M.size : Int) := by omega
  have hni0 : (0 : Int) ≤ (n : Int) + 1 := by omega
  have z4 : IntKind.i64.wrap ((n : Int) + 1) = (n : Int) + 1 := IntWalk.i64_in _ (by omega)
  rw [hM]
  clear hM hMs hn hA hB hC lA lAB lC lA2 hX1 hX2 hX3 hX4 hpos h0 hl b1 t1
  have hx4 : x % 4 = 0 ∨ x % 4 = 1 ∨ x % 4 = 2 ∨ x % 4 = 3 := by omega
  have hxt : (x : Int).tmod 4 = (x : Int) % 4 := Int.tmod_eq_emod_of_nonneg (by omega)
  rcases hx4 with hx4 | hx4 | hx4 | hx4
  · have e1 : (x : Int) % 4 = 0 := by omega
    have e2 : (x : Int).tmod 4 = 0 := by omega
    clear hx4 hxt
    go_enter Tryz.func13, Tryz.ntmps13
    go_wp2_with fail
    refine held_begin (fun u => u.cell? ⟨w.heap.size, 2, none⟩ = some (.int .u8 (b : Int))) (by kernel_rfl) ?_
    generalize hwd : World.drew w1 = wd
    have TD : Hid (Turn Nn w wd) := Lib.hid (by rw [← hwd]; exact T1.out.drew)
    have C2 : Hid (wd.cell? ⟨w.heap.size, 2, none⟩ = some (.int .u8 (b : Int))) := Lib.hid (by rw [← hwd]; exact K2.out)
    clear hwd k0 k1 k2
    refine held_take 0 ?_ rfl (by kernel_rfl) (by kernel_rfl) (by kernel_rfl) (fun _ _ _ h => h) (Or.inl ⟨by kernel_rfl, ?_⟩) C2.out ?_
    rotate_left 1
    · intro u hu; have y1 : u.cell? ⟨w.heap.size, 2, none⟩ = some (.int .u8 (b : Int)) := hu; clear hu; go_simp; first | done | with_reducible rfl
    try simp only [Act.put, List.getElem_toArray, List.getElem_cons_succ, List.getElem_cons_zero, List.setIfInBounds_toArray, List.set_cons_succ, List.set_cons_zero]
    refine held_take 1 ?_ rfl (by kernel_rfl) (by kernel_rfl) (by kernel_rfl) (fun _ _ _ h => h) (Or.inl ⟨by kernel_rfl, ?_⟩) C2.out ?_
    rotate_left 1
    · intro u hu; have y1 : u.cell? ⟨w.heap.size, 2, none⟩ = some (.int .u8 (b : Int)) := hu; clear hu; go_simp; first | done | with_reducible rfl
    try simp only [Act.put, List.getElem_toArray, List.getElem_cons_succ, List.getElem_cons_zero, List.setIfInBounds_toArray, List.set_cons_succ, List.set_cons_zero]
    refine held_take 2 ?_ rfl (by kernel_rfl) (by kernel_rfl) (by kernel_rfl) (fun _ _ _ h => h) (Or.inl ⟨by kernel_rfl, ?_⟩) C2.out ?_
    rotate_left 1
    · intro u hu; have y1 : u.cell? ⟨w.heap.size, 2, none⟩ = some (.int .u8 (b : Int)) := hu; clear hu; go_simp; first | done | with_reducible rfl
    try simp only [Act.put, List.getElem_toArray, List.getElem_cons_succ, List.getElem_cons_zero, List.setIfInBounds_toArray, List.set_cons_succ, List.set_cons_zero]
    refine held_take 3 ?_ rfl (by kernel_rfl) (by kernel_rfl) (by kernel_rfl) (fun _ _ _ h => h) (Or.inl ⟨by kernel_rfl, ?_⟩) C2.out ?_
    rotate_left 1
    · intro u hu; have y1 : u.cell? ⟨w.heap.size, 2, none⟩ = some (.int .u8 (b : Int)) := hu; clear hu; go_simp; first | done | with_reducible rfl
    try simp only [Act.put, List.getElem_toArray, List.getElem_cons_succ, List.getElem_cons_zero, List.setIfInBounds_toArray, List.set_cons_succ, List.set_cons_zero]
    refine held_take 4 ?_ rfl (by kernel_rfl) (by kernel_rfl) (by kernel_rfl) (fun _ _ _ h => h) (Or.inl ⟨by kernel_rfl, ?_⟩) C2.out ?_
    rotate_left 1
    · intro u hu; have y1 : u.cell? ⟨w.heap.size, 2, none⟩ = some (.int .u8 (b : Int)) := hu; clear hu; go_simp; first | done | with_reducible rfl
    try simp only [Act.put, List.getElem_toArray, List.getElem_cons_succ, List.getElem_cons_zero, List.setIfInBounds_toArray, List.set_cons_succ, List.set_cons_zero]
    refine held_take 8 ?_ rfl (by kernel_rfl) (by kernel_rfl) (by kernel_rfl) (fun _ _ _ h => h) (Or.inl ⟨by kernel_rfl, ?_⟩) C2.out ?_
    rotate_left 1
    · intro u hu; have y1 : u.cell? ⟨w.heap.size, 2, none⟩ = some (.int .u8 (b : Int)) := hu; clear hu; go_simp; first | done | with_reducible rfl
    try simp only [Act.put, List.getElem_toArray, List.getElem_cons_succ, List.getElem_cons_zero, List.setIfInBounds_toArray, List.set_cons_succ, List.set_cons_zero]
    refine held_take 9 ?_ rfl (by kernel_rfl) (by kernel_rfl) (by kernel_rfl) (fun _ _ _ h => h) (Or.inl ⟨by kernel_rfl, ?_⟩) C2.out ?_
    rotate_left 1
    · intro u hu; have y1 : u.cell? ⟨w.heap.size, 2, none⟩ = some (.int .u8 (b : Int)) := hu; clear hu; go_simp; first | done | with_reducible rfl
    try simp only [Act.put, List.getElem_toArray, List.getElem_cons_succ, List.getElem_cons_zero, List.setIfInBounds_toArray, List.set_cons_succ, List.set_cons_zero]
    refine held_take 10 ?_ rfl (by kernel_rfl) (by kernel_rfl) (by kernel_rfl) (fun _ _ _ h => h) (Or.inl ⟨by kernel_rfl, ?_⟩) C2.out ?_
    rotate_left 1
    · intro u hu; have y1 : u.cell? ⟨w.heap.size, 2, none⟩ = some (.int .u8 (b : Int)) := hu; clear hu; go_simp; first | done | with_reducible rfl
    try simp only [Act.put, List.getElem_toArray, List.getElem_cons_succ, List.getElem_cons_zero, List.setIfInBounds_toArray, List.set_cons_succ, List.set_cons_zero]
    obtain ⟨bb, t2⟩ := alloc1 (w := wd) (a := .cells #[.int .u8 (b : Int)] 5) rfl
    have TB := Lib.hid t2
    have C3 := Lib.hid (cell_turn t2 C2.out)
    have HCV := Lib.hid (conv_byte bb)
    clear bb t2
    refine held_one 5 (by kernel_rfl) rfl (by kernel_rfl) (fun K hK => ?_)
    go_simp
    refine hK _ _ C3.out ?_
    clear hK K 
    try simp only [Act.put, List.getElem_toArray, List.getElem_cons_succ, List.getElem_cons_zero, List.setIfInBounds_toArray, List.set_cons_succ, List.set_cons_zero]
    refine held_one 6 (by kernel_rfl) rfl (by kernel_rfl) (fun K hK => ?_)
    have hc := HCV.out
    go_simp
    refine hK _ _ C3.out ?_
    clear hK K hc
    try simp only [Act.put, List.getElem_toArray, List.getElem_cons_succ, List.getElem_cons_zero, List.setIfInBounds_toArray, List.set_cons_succ, List.set_cons_zero]
    refine held_one 7 (by kernel_rfl) rfl (by kernel_rfl) (fun K hK => ?_)
    have hs := S1.out
    go_simp
    refine hK _ _ C3.out ?_
    clear hK K hs
    try simp only [Act.put, List.getElem_toArray, List.getElem_cons_succ, List.getElem_cons_zero, List.setIfInBounds_toArray, List.set_cons_succ, List.set_cons_zero]
    refine held_one 11 (by kernel_rfl) rfl (by kernel_rfl) (fun K hK => ?_)
    have hs := S2.out
    go_simp
    refine hK _ _ C3.out ?_
    clear hK K hs
    try simp only [Act.put, List.getElem_toArray, List.getElem_cons_succ, List.getElem_cons_zero, List.setIfInBounds_toArray, List.set_cons_succ, List.set_cons_zero]
    refine held_one 12 (by kernel_rfl) rfl (by kernel_rfl) (fun K hK => ?_)
    go_simp
    refine hK _ _ C3.out ?_
    clear hK K 
    try simp only [Act.put, List.getElem_toArray, List.getElem_cons_succ, List.getElem_cons_zero, List.setIfInBounds_toArray, List.set_cons_succ, List.set_cons_zero]
    refine wpAnyH_done (by kernel_rfl) ?_ _
    go_wp2_with fail
    go_ret
    exact ⟨_, rfl, HLX.out, TD.out.trans TB.out⟩
  · have e1 : (x : Int) % 4 = 1 := by omega
    have e2 : (x : Int).tmod 4 = 1 := by omega
    clear hx4 hxt
    go_enter Tryz.func13, Tryz.ntmps13
    go_wp2_with fail
    refine held_begin (fun u => u.cell? ⟨w.heap.size, 2, none⟩ = some (.int .u8 (b : Int))) (by kernel_rfl) ?_
    generalize hwd : World.drew w1 = wd
    have TD : Hid (Turn Nn w wd) := Lib.hid (by rw [← hwd]; exact T1.out.drew)
    have C2 : Hid (wd.cell? ⟨w.heap.size, 2, none⟩ = some (.int .u8 (b : Int))) := Lib.hid (by rw [← hwd]; exact K2.out)
    clear hwd k0 k1 k2
    refine held_take 0 ?_ rfl (by kernel_rfl) (by kernel_rfl) (by kernel_rfl) (fun _ _ _ h => h) (Or.inl ⟨by kernel_rfl, ?_⟩) C2.out ?_
    rotate_left 1
    · intro u hu; have y1 : u.cell? ⟨w.heap.size, 2, none⟩ = some (.int .u8 (b : Int)) := hu; clear hu; go_simp; first | done | with_reducible rfl
    try simp only [Act.put, List.getElem_toArray, List.getElem_cons_succ, List.getElem_cons_zero, List.setIfInBounds_toArray, List.set_cons_succ, List.set_cons_zero]
    refine held_take 1 ?_ rfl (by kernel_rfl) (by kernel_rfl) (by kernel_rfl) (fun _ _ _ h => h) (Or.inl ⟨by kernel_rfl, ?_⟩) C2.out ?_
    rotate_left 1
    · intro u hu; have y1 : u.cell? ⟨w.heap.size, 2, none⟩ = some (.int .u8 (b : Int)) := hu; clear hu; go_simp; first | done | with_reducible rfl
    try simp only [Act.put, List.getElem_toArray, List.getElem_cons_succ, List.getElem_cons_zero, List.setIfInBounds_toArray, List.set_cons_succ, List.set_cons_zero]
    refine held_take 2 ?_ rfl (by kernel_rfl) (by kernel_rfl) (by kernel_rfl) (fun _ _ _ h => h) (Or.inl ⟨by kernel_rfl, ?_⟩) C2.out ?_
    rotate_left 1
    · intro u hu; have y1 : u.cell? ⟨w.heap.size, 2, none⟩ = some (.int .u8 (b : Int)) := hu; clear hu; go_simp; first | done | with_reducible rfl
    try simp only [Act.put, List.getElem_toArray, List.getElem_cons_succ, List.getElem_cons_zero, List.setIfInBounds_toArray, List.set_cons_succ, List.set_cons_zero]
    refine held_take 3 ?_ rfl (by kernel_rfl) (by kernel_rfl) (by kernel_rfl) (fun _ _ _ h => h) (Or.inl ⟨by kernel_rfl, ?_⟩) C2.out ?_
    rotate_left 1
    · intro u hu; have y1 : u.cell? ⟨w.heap.size, 2, none⟩ = some (.int .u8 (b : Int)) := hu; clear hu; go_simp; first | done | with_reducible rfl
    try simp only [Act.put, List.getElem_toArray, List.getElem_cons_succ, List.getElem_cons_zero, List.setIfInBounds_toArray, List.set_cons_succ, List.set_cons_zero]
    refine held_take 4 ?_ rfl (by kernel_rfl) (by kernel_rfl) (by kernel_rfl) (fun _ _ _ h => h) (Or.inl ⟨by kernel_rfl, ?_⟩) C2.out ?_
    rotate_left 1
    · intro u hu; have y1 : u.cell? ⟨w.heap.size, 2, none⟩ = some (.int .u8 (b : Int)) := hu; clear hu; go_simp; first | done | with_reducible rfl
    try simp only [Act.put, List.getElem_toArray, List.getElem_cons_succ, List.getElem_cons_zero, List.setIfInBounds_toArray, List.set_cons_succ, List.set_cons_zero]
    refine held_take 5 ?_ rfl (by kernel_rfl) (by kernel_rfl) (by kernel_rfl) (fun _ _ _ h => h) (Or.inl ⟨by kernel_rfl, ?_⟩) C2.out ?_
    rotate_left 1
    · intro u hu; have y1 : u.cell? ⟨w.heap.size, 2, none⟩ = some (.int .u8 (b : Int)) := hu; clear hu; go_simp; first | done | with_reducible rfl
    try simp only [Act.put, List.getElem_toArray, List.getElem_cons_succ, List.getElem_cons_zero, List.setIfInBounds_toArray, List.set_cons_succ, List.set_cons_zero]
    refine held_take 6 ?_ rfl (by kernel_rfl) (by kernel_rfl) (by kernel_rfl) (fun _ _ _ h => h) (Or.inl ⟨by kernel_rfl, ?_⟩) C2.out ?_
    rotate_left 1
    · intro u hu; have y1 : u.cell? ⟨w.heap.size, 2, none⟩ = some (.int .u8 (b : Int)) := hu; clear hu; go_simp; first | done | with_reducible rfl
    try simp only [Act.put, List.getElem_toArray, List.getElem_cons_succ, List.getElem_cons_zero, List.setIfInBounds_toArray, List.set_cons_succ, List.set_cons_zero]
    refine held_one 7 (by kernel_rfl) rfl (by kernel_rfl) (fun K hK => ?_)
    have hs := S3.out
    go_simp
    refine hK _ _ C2.out ?_
    clear hK K hs
    try simp only [Act.put, List.getElem_toArray, List.getElem_cons_succ, List.getElem_cons_zero, List.setIfInBounds_toArray, List.set_cons_succ, List.set_cons_zero]
    refine held_one 8 (by kernel_rfl) rfl (by kernel_rfl) (fun K hK => ?_)
    go_simp
    refine hK _ _ C2.out ?_
    clear hK K 
    try simp only [Act.put, List.getElem_toArray, List.getElem_cons_succ, List.getElem_cons_zero, List.setIfInBounds_toArray, List.set_cons_succ, List.set_cons_zero]
    refine wpAnyH_done (by kernel_rfl) ?_ _
    go_wp2_with fail
    go_ret
    exact ⟨_, rfl, HLY.out, TD.out⟩
  · have e1 : (x : Int) % 4 = 2 := by omega
    have e2 : (x : Int).tmod 4 = 2 := by omega
    clear hx4 hxt
    go_enter Tryz.func13, Tryz.ntmps13
    go_wp2_with fail
    refine held_begin (fun u => u.cell? ⟨w.heap.size, 2, none⟩ = some (.int .u8 (b : Int))) (by kernel_rfl) ?_
    generalize hwd : World.drew w1 = wd
    have TD : Hid (Turn Nn w wd) := Lib.hid (by rw [← hwd]; exact T1.out.drew)
    have C2 : Hid (wd.cell? ⟨w.heap.size, 2, none⟩ = some (.int .u8 (b : Int))) := Lib.hid (by rw [← hwd]; exact K2.out)
    clear hwd k0 k1 k2
    refine held_take 0 ?_ rfl (by kernel_rfl) (by kernel_rfl) (by kernel_rfl) (fun _ _ _ h => h) (Or.inl ⟨by kernel_rfl, ?_⟩) C2.out ?_
    rotate_left 1
    · intro u hu; have y1 : u.cell? ⟨w.heap.size, 2, none⟩ = some (.int .u8 (b : Int)) := hu; clear hu; go_simp; first | done | with_reducible rfl
    try simp only [Act.put, List.getElem_toArray, List.getElem_cons_succ, List.getElem_cons_zero, List.setIfInBounds_toArray, List.set_cons_succ, List.set_cons_zero]
    refine held_take 1 ?_ rfl (by kernel_rfl) (by kernel_rfl) (by kernel_rfl) (fun _ _ _ h => h) (Or.inl ⟨by kernel_rfl, ?_⟩) C2.out ?_
    rotate_left 1
    · intro u hu; have y1 : u.cell? ⟨w.heap.size, 2, none⟩ = some (.int .u8 (b : Int)) := hu; clear hu; go_simp; first | done | with_reducible rfl
    try simp only [Act.put, List.getElem_toArray, List.getElem_cons_succ, List.getElem_cons_zero, List.setIfInBounds_toArray, List.set_cons_succ, List.set_cons_zero]
    refine held_take 2 ?_ rfl (by kernel_rfl) (by kernel_rfl) (by kernel_rfl) (fun _ _ _ h => h) (Or.inl ⟨by kernel_rfl, ?_⟩) C2.out ?_
    rotate_left 1
    · intro u hu; have y1 : u.cell? ⟨w.heap.size, 2, none⟩ = some (.int .u8 (b : Int)) := hu; clear hu; go_simp; first | done | with_reducible rfl
    try simp only [Act.put, List.getElem_toArray, List.getElem_cons_succ, List.getElem_cons_zero, List.setIfInBounds_toArray, List.set_cons_succ, List.set_cons_zero]
    refine held_take 3 ?_ rfl (by kernel_rfl) (by kernel_rfl) (by kernel_rfl) (fun _ _ _ h => h) (Or.inl ⟨by kernel_rfl, ?_⟩) C2.out ?_
    rotate_left 1
    · intro u hu; have y1 : u.cell? ⟨w.heap.size, 2, none⟩ = some (.int .u8 (b : Int)) := hu; clear hu; go_simp; first | done | with_reducible rfl
    try simp only [Act.put, List.getElem_toArray, List.getElem_cons_succ, List.getElem_cons_zero, List.setIfInBounds_toArray, List.set_cons_succ, List.set_cons_zero]
    refine held_take 4 ?_ rfl (by kernel_rfl) (by kernel_rfl) (by kernel_rfl) (fun _ _ _ h => h) (Or.inl ⟨by kernel_rfl, ?_⟩) C2.out ?_
    rotate_left 1
    · intro u hu; have y1 : u.cell? ⟨w.heap.size, 2, none⟩ = some (.int .u8 (b : Int)) := hu; clear hu; go_simp; first | done | with_reducible rfl
    try simp only [Act.put, List.getElem_toArray, List.getElem_cons_succ, List.getElem_cons_zero, List.setIfInBounds_toArray, List.set_cons_succ, List.set_cons_zero]
    refine held_take 8 ?_ rfl (by kernel_rfl) (by kernel_rfl) (by kernel_rfl) (fun _ _ _ h => h) (Or.inl ⟨by kernel_rfl, ?_⟩) C2.out ?_
    rotate_left 1
    · intro u hu; have y1 : u.cell? ⟨w.heap.size, 2, none⟩ = some (.int .u8 (b : Int)) := hu; clear hu; go_simp; first | done | with_reducible rfl
    try simp only [Act.put, List.getElem_toArray, List.getElem_cons_succ, List.getElem_cons_zero, List.setIfInBounds_toArray, List.set_cons_succ, List.set_cons_zero]
    refine held_take 9 ?_ rfl (by kernel_rfl) (by kernel_rfl) (by kernel_rfl) (fun _ _ _ h => h) (Or.inl ⟨by kernel_rfl, ?_⟩) C2.out ?_
    rotate_left 1
    · intro u hu; have y1 : u.cell? ⟨w.heap.size, 2, none⟩ = some (.int .u8 (b : Int)) := hu; clear hu; go_simp; first | done | with_reducible rfl
    try simp only [Act.put, List.getElem_toArray, List.getElem_cons_succ, List.getElem_cons_zero, List.setIfInBounds_toArray, List.set_cons_succ, List.set_cons_zero]
    refine held_take 10 ?_ rfl (by kernel_rfl) (by kernel_rfl) (by kernel_rfl) (fun _ _ _ h => h) (Or.inl ⟨by kernel_rfl, ?_⟩) C2.out ?_
    rotate_left 1
    · intro u hu; have y1 : u.cell? ⟨w.heap.size, 2, none⟩ = some (.int .u8 (b : Int)) := hu; clear hu; go_simp; first | done | with_reducible rfl
    try simp only [Act.put, List.getElem_toArray, List.getElem_cons_succ, List.getElem_cons_zero, List.setIfInBounds_toArray, List.set_cons_succ, List.set_cons_zero]
    refine held_take 11 ?_ rfl (by kernel_rfl) (by kernel_rfl) (by kernel_rfl) (fun _ _ _ h => h) (Or.inl ⟨by kernel_rfl, ?_⟩) C2.out ?_
    rotate_left 1
    · intro u hu; have y1 : u.cell? ⟨w.heap.size, 2, none⟩ = some (.int .u8 (b : Int)) := hu; clear hu; go_simp; first | done | with_reducible rfl
    try simp only [Act.put, List.getElem_toArray, List.getElem_cons_succ, List.getElem_cons_zero, List.setIfInBounds_toArray, List.set_cons_succ, List.set_cons_zero]
    obtain ⟨bb, t2⟩ := alloc1 (w := wd) (a := .cells #[.int .u8 (b : Int)] 5) rfl
    have TB := Lib.hid t2
    have C3 := Lib.hid (cell_turn t2 C2.out)
    have HCV := Lib.hid (conv_byte bb)
    clear bb t2
    refine held_one 5 (by kernel_rfl) rfl (by kernel_rfl) (fun K hK => ?_)
    go_simp
    refine hK _ _ C3.out ?_
    clear hK K 
    try simp only [Act.put, List.getElem_toArray, List.getElem_cons_succ, List.getElem_cons_zero, List.setIfInBounds_toArray, List.set_cons_succ, List.set_cons_zero]
    refine held_one 6 (by kernel_rfl) rfl (by kernel_rfl) (fun K hK => ?_)
    have hc := HCV.out
    go_simp
    refine hK _ _ C3.out ?_
    clear hK K hc
    try simp only [Act.put, List.getElem_toArray, List.getElem_cons_succ, List.getElem_cons_zero, List.setIfInBounds_toArray, List.set_cons_succ, List.set_cons_zero]
    refine held_one 7 (by kernel_rfl) rfl (by kernel_rfl) (fun K hK => ?_)
    have hs := S1.out
    go_simp
    refine hK _ _ C3.out ?_
    clear hK K hs
    try simp only [Act.put, List.getElem_toArray, List.getElem_cons_succ, List.getElem_cons_zero, List.setIfInBounds_toArray, List.set_cons_succ, List.set_cons_zero]
    refine held_one 12 (by kernel_rfl) rfl (by kernel_rfl) (fun K hK => ?_)
    have hs := S4.out
    go_simp
    refine hK _ _ C3.out ?_
    clear hK K hs
    try simp only [Act.put, List.getElem_toArray, List.getElem_cons_succ, List.getElem_cons_zero, List.setIfInBounds_toArray, List.set_cons_succ, List.set_cons_zero]
    refine held_one 13 (by kernel_rfl) rfl (by kernel_rfl) (fun K hK => ?_)
    go_simp
    refine hK _ _ C3.out ?_
    clear hK K 
    try simp only [Act.put, List.getElem_toArray, List.getElem_cons_succ, List.getElem_cons_zero, List.setIfInBounds_toArray, List.set_cons_succ, List.set_cons_zero]
    refine wpAnyH_done (by kernel_rfl) ?_ _
    go_wp2_with fail
    go_ret
    exact ⟨_, rfl, HLZ.out, TD.out.trans TB.out⟩
  · have e1 : (x : Int) % 4 = 3 := by omega
    have e2 : (x : Int).tmod 4 = 3 := by omega
    clear hx4 hxt
    go_enter Tryz.func13, Tryz.ntmps13
    go_wp2_with fail
    go_ret
    exact ⟨_, rfl, HLA.out, T1.out⟩


set_option maxRecDepth 100000 in
set_option maxHeartbeats 16000000 in
theorem reads_any {t : Bs} {w : World} (hl : t.length ≤ 89998) (hlw : Laid w) (hmx : Mx w) (he : ET w) :
    Calls Tryz.prog 12 #[.string (BT t)] w fun e w' => e = .returned (.bool true) ∧ Turn Nn w w' := by
  have PA := Lib.hid (parse_any t hlw hmx hl)
  have RP := Lib.hid (fun W => refParse_any (t := t) (by omega) W)
  have HE := Lib.hid he
  obtain ⟨M, hM⟩ : ∃ M, BT t = M := ⟨_, rfl⟩
  rw [hM] at PA RP
  rw [hM]
  clear hM hlw hmx he
  go_enter Tryz.func12, Tryz.ntmps12
  go_wp2_with fail
  refine PA.out.mono ?_
  rintro e w2 ⟨hp, t2⟩
  have T2 := Lib.hid t2
  clear t2
  cases hpp : parseD t with
  | error cn =>
    obtain ⟨c, n⟩ := cn
    rw [hpp] at hp
    obtain ⟨f, rfl, hf, _⟩ := hp
    have HF := Lib.hid hf
    clear hf
    simp only [sZero]
    go_upto_region 2 with (fail)
    generalize hW : World.alloc w2 _ = w3
    obtain ⟨b3, t3⟩ := alloc1 hW
    have B3 := Lib.hid b3
    have T3 := Lib.hid (T2.out.trans t3)
    have HF3 := Lib.hid ((t3.block _ (heap_lt HF.out) (fun h => h)).trans HF.out)
    clear hW b3 t3
    go_wp2_with fail
    refine (RP.out _).mono ?_
    rintro e w4 ⟨hq, t4⟩
    rw [hpp] at hq
    obtain ⟨rfl, hc0⟩ := hq
    have HC0 := Lib.hid hc0
    have T4 := Lib.hid (T3.out.trans t4)
    have HF4 := Lib.hid ((t4.block _ (heap_lt HF3.out) (fun h => h)).trans HF3.out)
    have B4 := Lib.hid ((t4.block _ (heap_lt B3.out) (fun h => h)).trans B3.out)
    clear hc0 t4 hpp
    simp only [sZero]
    go_upto_region 3 with (fail)
    generalize hW : World.alloc (World.alloc w4 _) _ = w5
    obtain ⟨b5, b6, t5⟩ := alloc2 hW
    obtain ⟨g0, g1⟩ := cells2m b6
    have B5 := Lib.hid b5
    have T5 := Lib.hid (T4.out.trans t5)
    have HF5 := Lib.hid ((t5.block _ (heap_lt HF4.out) (fun h => h)).trans HF4.out)
    have B3b := Lib.hid ((t5.block _ (heap_lt B4.out) (fun h => h)).trans B4.out)
    clear hW b5 b6 t5
    go_wp2_with fail
    refine (told_fault c n HC0.out (HE.out.turn T5.out) HF5.out).mono ?_
    rintro e w6 ⟨rfl, t6⟩
    have T6 := Lib.hid (T5.out.trans t6)
    obtain ⟨x0, x1, x2, x3, x4, x5⟩ := cells6 ((t6.block _ (heap_lt B3b.out) (fun h => h)).trans B3b.out)
    obtain ⟨y0, y1, y2, y3, y4, y5⟩ := cells6 ((t6.block _ (heap_lt B5.out) (fun h => h)).trans B5.out)
    clear t6 g0 g1
    go_wp2_with fail
    refine (refSame_any (s := zeroS) (v1 := .slice none 0 0) (v2 := .slice none 0 0) (.inl ⟨rfl, _, _, rfl⟩) (.inl ⟨rfl, _, _, rfl⟩) (by decide)).mono ?_
    rintro e w7 ⟨rfl, t7⟩
    have T7 := Lib.hid (T6.out.trans t7)
    clear t7 x0 x1 x2 x3 x4 x5 y0 y1 y2 y3 y4 y5
    go_wp2_with fail
    go_ret
    exact ⟨rfl, T7.out⟩
  | ok s =>
    rw [hpp] at hp
    obtain ⟨v', rfl, ho⟩ := hp
    obtain ⟨pw, cw, rfl⟩ := (TSl.own ho).shape
    have V2 := Lib.hid (TSl.own ho)
    clear ho
    simp only [scriptV]
    go_upto_region 2 with (fail)
    generalize hW : World.alloc w2 _ = w3
    obtain ⟨b3, t3⟩ := alloc1 hW
    have B3 := Lib.hid b3
    have T3 := Lib.hid (T2.out.trans t3)
    have V3 := Lib.hid (V2.out.turn t3)
    clear hW b3 t3
    go_wp2_with fail
    refine (RP.out _).mono ?_
    rintro e w4 ⟨hq, t4⟩
    rw [hpp] at hq
    obtain ⟨v4, rfl, hv4, hn4⟩ := hq
    obtain ⟨pv, cv, rfl⟩ := hv4.shape
    have V4 := Lib.hid (V3.out.turn t4)
    have U4 := Lib.hid hv4
    have HN4 := Lib.hid hn4
    have T4 := Lib.hid (T3.out.trans t4)
    have B4 := Lib.hid ((t4.block _ (heap_lt B3.out) (fun h => h)).trans B3.out)
    clear hv4 hn4 t4 hpp
    simp only [scriptA]
    go_upto_region 3 with (fail)
    generalize hW : World.alloc (World.alloc w4 _) _ = w5
    obtain ⟨b5, b6, t5⟩ := alloc2 hW
    obtain ⟨g0, g1⟩ := cells2m b6
    have B5 := Lib.hid b5
    have T5 := Lib.hid (T4.out.trans t5)
    have V5 := Lib.hid (V4.out.turn t5)
    have U5 := Lib.hid (U4.out.turn t5)
    have B3b := Lib.hid ((t5.block _ (heap_lt B4.out) (fun h => h)).trans B4.out)
    clear hW b5 b6 t5
    go_wp2_with fail
    refine (told_nil 0 0 w5).mono ?_
    rintro e w6 ⟨rfl, t6⟩
    have T6 := Lib.hid (T5.out.trans t6)
    have V6 := Lib.hid (V5.out.turn t6)
    have U6 := Lib.hid (U5.out.turn t6)
    obtain ⟨x0, x1, x2, x3, x4, x5⟩ := cells6 ((t6.block _ (heap_lt B3b.out) (fun h => h)).trans B3b.out)
    obtain ⟨y0, y1, y2, y3, y4, y5⟩ := cells6 ((t6.block _ (heap_lt B5.out) (fun h => h)).trans B5.out)
    clear t6 g0 g1
    go_wp2_with fail
    refine (refSame_any (s := s) V6.out U6.out (by have := HN4.out; omega)).mono ?_
    rintro e w7 ⟨rfl, t7⟩
    have T7 := Lib.hid (T6.out.trans t7)
    clear t7 x0 x1 x2 x3 x4 x5 y0 y1 y2 y3 y4 y5
    go_wp2_with fail
    go_ret
    exact ⟨by simp, T7.out⟩


/-- A slice of changes. -/
def CSl (w : World) (v : Value) (N : Nat) : Prop :=
  ∃ pt ct, v = .slice pt N ct ∧ N ≤ ct ∧ ∀ i, i < N → ∃ b o, ∃ x y z : Nat, pt = some ⟨b, o, none⟩ ∧ x < 256 ∧ y < 65536 ∧ z < 256 ∧ w.cell? ⟨b, o + i * 3, none⟩ = some (.int .u8 (x : Int)) ∧ w.cell? ⟨b, o + i * 3 + 1, none⟩ = some (.int .u16 (y : Int)) ∧ w.cell? ⟨b, o + i * 3 + 2, none⟩ = some (.int .u8 (z : Int))
theorem CSl.turn {w w' : World} {v : Value} {N : Nat} (h : CSl w v N) (t : Turn Nn w w') : CSl w' v N := by
  obtain ⟨pt, ct, h1, h2, h3⟩ := h
  refine ⟨pt, ct, h1, h2, fun i hi => ?_⟩
  obtain ⟨b, o, x, y, z, e, hx, hy, hz, c0, c1, c2⟩ := h3 i hi
  exact ⟨b, o, x, y, z, e, hx, hy, hz, cell_turn t c0, cell_turn t c1, cell_turn t c2⟩

theorem ref_text {s : ScriptD} {x : Bs} {c : Int} (h : printD s = (x, c)) (hs1 : s.turns.length ≤ 101) (hs2 : s.mod.length ≤ 3000) : x.length ≤ 40000 := by
  by_cases hc : c = 0
  · subst hc
    obtain ⟨hvd, hx⟩ := printD_ok h
    rw [hx]; exact text_short hvd hs2 hs1
  · unfold printD at h
    split at h
    · simp only [Prod.mk.injEq] at h; rw [← h.1]; simp
    · split at h
      · simp only [Prod.mk.injEq] at h; rw [← h.1]; simp
      · simp only [Prod.mk.injEq] at h; exact absurd h.2.symm hc

set_option maxRecDepth 100000 in
set_option maxHeartbeats 16000000 in
theorem scriptReads_any {a0 a1 a2 odd N K : Nat} {tw : Bool} {mv tv cv : Value} {l : Bs} {t0 : Bs} {w : World} (h0 : a0 < 256) (h1 : a1 < 256) (h2 : a2 < 256) (ho : odd < 256) (hm : BSl w mv l) (hl : l.length ≤ 9223372036854775807) (ht : ASl w tv N) (hN : N ≤ 9223372036854775807) (hcs : CSl w cv K) (hK : K ≤ 9223372036854775807) (htl : (BT t0).size ≤ 9223372036854775807)
    (hlw : Laid w) (hmx : Mx w) (he : ET w) :
    Calls Tryz.prog 4 #[.string (BT t0), .agg (dcells a0 a1 a2 tw mv tv odd), cv] w fun e w' => e = .returned (.bool true) ∧ Turn Nn w w' := by
  obtain ⟨pc, cc, rfl, hcc, hcell⟩ := hcs
  obtain ⟨w1, hw1⟩ : ∃ w1, w.alloc (.cells (dcells a0 a1 a2 tw mv tv odd) 31) = w1 := ⟨_, rfl⟩
  obtain ⟨b1, t1⟩ := alloc1 hw1
  have B1 := Lib.hid b1
  have T1 := Lib.hid t1
  have HM := Lib.hid (hm.turn t1)
  have HT := Lib.hid (ht.turn t1)
  have HL := Lib.hid (hlw.turn t1)
  have HMX := Lib.hid (hmx.turn t1)
  have HE := Lib.hid (he.turn t1)
  have HC := Lib.hid (CSl.turn ⟨pc, cc, rfl, hcc, hcell⟩ t1)
  obtain ⟨u, hu, hul⟩ : ∃ u : Bs, (BT t0).extract 0 (min ((BT t0).size : Int) 20000).toNat = BT u ∧ u.length ≤ 20000 := cut_text t0
  obtain ⟨M, hM⟩ : ∃ M, BT t0 = M := ⟨_, rfl⟩
  rw [hM] at hu htl
  rw [hM]
  clear b1 t1 hm ht hlw hmx he hcell hM
  simp only [dcells] at hw1 ⊢
  have RD := Lib.hid (reads_any (t := u) (by omega) HL.out HMX.out HE.out)
  go_enter Tryz.func4, Tryz.ntmps4
  go_wp2_with fail
  refine RD.out.mono ?_
  rintro e w2 ⟨rfl, t2⟩
  have T2 := Lib.hid t2
  clear t2 hu
  obtain ⟨f0, f1, f2, f3, f4, f5, f6⟩ := cells7 ((T2.out.block _ (heap_lt B1.out) (fun h => h)).trans B1.out)
  go_wp2_with fail
  refine (drafted_any (odd := odd) h0 h1 h2 ho (HM.out.turn T2.out) hl (HT.out.turn T2.out) hN).mono ?_
  rintro e w3 ⟨s, v, rfl, hv, hs1, hs2, t3⟩
  obtain ⟨pv, cv, rfl⟩ := hv.shape
  have T3 := Lib.hid (T2.out.trans t3)
  have HV := Lib.hid hv
  clear t3 hv f0 f1 f2 f3 f4 f5 f6
  have PR := Lib.hid (refPrint_any (s := s) HV.out (by omega) (by omega))
  simp only [scriptA]
  go_wp2_with fail
  refine PR.out.mono ?_
  rintro e w4 ⟨rfl, t4⟩
  have T4 := Lib.hid (T3.out.trans t4)
  obtain ⟨x, c, hpr⟩ : ∃ x c, printD s = (x, c) := ⟨_, _, rfl⟩
  have hxl := ref_text hpr hs1 hs2
  rw [hpr]
  simp only
  clear t4 hpr
  have RD2 := Lib.hid (reads_any (t := x) (by omega) (HL.out.turn T4.out) (HMX.out.turn T4.out) (HE.out.turn T4.out))
  have HXL := Lib.hid hxl
  clear hxl
  go_wp2_with fail
  refine RD2.out.mono ?_
  rintro e w5 ⟨rfl, t5⟩
  have T5 := Lib.hid (T4.out.trans t5)
  clear t5
  go_wp2_with fail
  go_loopw [7, 9] (fun st i wr => ∃ (q : Nat) (y : Bs), q ≤ 3 ∧ q ≤ K ∧ i = .int .i64 q ∧ st = .string (BT y) ∧ y.length ≤ 40000 + q ∧ Turn Nn w1 wr) (fun _ i _ => 3 - (intOf i).toNat)
  case atStart => exact ⟨0, x, by omega, by omega, rfl, rfl, by have := HXL.out; omega, T5.out⟩
  case round =>
    obtain ⟨q, y, hq3, hqK, rfl, rfl, hyl, hr⟩ := hrel
    have TR := Lib.hid hr
    clear hr
    by_cases hgo : q < K ∧ q < 3
    · obtain ⟨g1, g2⟩ := hgo
      obtain ⟨pt, ct, hpt, _, hcell⟩ := HC.out.turn TR.out
      simp only [Value.slice.injEq] at hpt
      obtain ⟨rfl, _, rfl⟩ := hpt
      obtain ⟨b, o, cx, cy, cz, rfl, hx, hy, hz, c0, c1, c2⟩ := hcell q g1
      have CH := Lib.hid (changed_any (t := y) hx hy hz (by omega) wr)
      have e1 : (q : Int) < (K : Int) := by omega
      have e2 : (q : Int) < 3 := by omega
      clear hcell
      go_wp2_with fail
      refine CH.out.mono ?_
      rintro e w6 ⟨y', rfl, hyl', t6⟩
      have T6 := Lib.hid (TR.out.trans t6)
      clear t6 c0 c1 c2
      go_wp2_with fail
      go_roundw
      case rel => exact ⟨q + 1, y', by omega, by omega, by go_num, rfl, by omega, T6.out⟩
      case measure => simp [intOf]; omega
    · have RD3 := Lib.hid (reads_any (t := y) (by omega) (HL.out.turn TR.out) (HMX.out.turn TR.out) (HE.out.turn TR.out))
      by_cases g1 : q < K
      · have g2 : ¬ (q : Int) < 3 := fun h => hgo ⟨g1, by omega⟩
        have g1' : (q : Int) < (K : Int) := by omega
        clear hgo
        go_wp2_with fail
        refine RD3.out.mono ?_
        rintro e w6 ⟨rfl, t6⟩
        have T6 := Lib.hid (TR.out.trans t6)
        have WA := Lib.hid (works_any (HL.out.turn T6.out) (HMX.out.turn T6.out) (HE.out.turn T6.out))
        clear t6
        go_wp2_with fail
        refine WA.out.mono ?_
        rintro e w7 ⟨rfl, t7⟩
        have T7 := Lib.hid (T6.out.trans t7)
        clear t7
        go_wp2_with fail
        go_ret
        exact ⟨rfl, T1.out.trans T7.out⟩
      · have g1' : ¬ (q : Int) < (K : Int) := by omega
        clear hgo
        go_wp2_with fail
        refine RD3.out.mono ?_
        rintro e w6 ⟨rfl, t6⟩
        have T6 := Lib.hid (TR.out.trans t6)
        have WA := Lib.hid (works_any (HL.out.turn T6.out) (HMX.out.turn T6.out) (HE.out.turn T6.out))
        clear t6
        go_wp2_with fail
        refine WA.out.mono ?_
        rintro e w7 ⟨rfl, t7⟩
        have T7 := Lib.hid (T6.out.trans t7)
        clear t7
        go_wp2_with fail
        go_ret
        exact ⟨rfl, T1.out.trans T7.out⟩
end Go.Proofs.YtjnllclpdllceaaGreatDoor
