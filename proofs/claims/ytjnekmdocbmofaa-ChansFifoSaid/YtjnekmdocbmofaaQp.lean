/- Whatever comes and goes, the queue answers as the document says: the law's walk. -/
import Derived.Test.YtjnekmdocbmofaaQo
import Derived.Test.YtjnekmdocbmofaaHe
namespace Go.Proofs.Ytjnekmdocbmofaa
set_option linter.unusedSimpArgs false
set_option linter.unusedVariables false
open Go.RowKit Go.Shelf

def Sm (a : Addr) (v : Value) (w : World) : Prop := w.cell? a = some v

/-- A slice of moves. -/
def MovI (w : World) (v : Value) (n : Nat) : Prop := ∃ pa cap, v = .slice pa n cap ∧ ∀ i, i < n → ∃ (b o : Nat) (y : Bool) (z : Int), pa = some ⟨b, o, none⟩ ∧ w.cell? ⟨b, o + i * 2, none⟩ = some (.bool y) ∧ w.cell? ⟨b, o + i * 2 + 1, none⟩ = some (.int .i64 z)

theorem fullqb {w b L m} {bf : Bool} (h : QIs w b L m) (hz : ((L.length : Int) == (m : Int)) = bf) :
    Calls Try.prog 19 #[.pointer (some ⟨b, 0, none⟩)] w fun e w' => e = .returned (.bool bf) ∧ ∃ k, w' = w.drewN k := by
  rw [← hz]; exact fullq h
theorem refFullb {w rb L m} {bf : Bool} (h : RefQ w rb L m) (hz : decide (m ≤ L.length) = bf) :
    Calls Try.prog 20 #[.pointer (some ⟨rb, 0, none⟩)] w fun e w' => e = .returned (.bool bf) ∧ ∃ k, w' = w.drewN k := by
  rw [← hz]; exact refFull h
theorem lenqn {w b L m} {n : Nat} (h : QIs w b L m) (hz : L.length = n) :
    Calls Try.prog 18 #[.pointer (some ⟨b, 0, none⟩)] w fun e w' => e = .returned (.int .i64 n) ∧ ∃ k, w' = w.drewN k := by
  rw [← hz]; exact lenq h

theorem RefSl.sl {w rb v L} (h : RefSl w rb v L) : SlI w v L := by
  rcases h with ⟨rfl, rfl⟩ | ⟨g, o, cap, cur, hg, rfl, hcur, hfit, hcap, hc⟩
  · exact .inl ⟨rfl, _, _, rfl⟩
  · exact .inr ⟨g, o, cap, rfl, hcap, fun i hi => (cell_blk hcur _).trans (hc i hi)⟩

set_option maxRecDepth 100000 in
set_option maxHeartbeats 16000000 in
theorem moves20_bad (w : World) (m : Int) (vl : Value) (h : m ≤ 0 ∨ 16 < m) :
    Calls Try.prog 3 #[.int .i64 m, vl] w fun e w' => e = .returned (.bool true) ∧ Below w.heap.size w w' := by
  go_enter Try.func3, Try.ntmps3
  go_wp2_with fail
  refine (new_bad m w h).mono ?_
  rintro e w' ⟨rfl, rfl⟩
  go_wp2_with fail
  refine (refNew_bad m w h).mono ?_
  rintro e w' ⟨rfl, rfl⟩
  go_wp2_with fail
  refine (works20 rowsSaid w).mono ?_
  rintro e w1 ⟨rfl, b1⟩
  go_wp2_with fail
  go_ret
  exact ⟨rfl, b1⟩

set_option maxRecDepth 100000 in
set_option maxHeartbeats 16000000 in
theorem moves20_ok (w : World) (m : Nat) (vl : Value) (nl : Nat) (hm1 : 1 ≤ m) (hm2 : m ≤ 16) (hl : MovI w vl nl) :
    Calls Try.prog 3 #[.int .i64 m, vl] w fun e w' => e = .returned (.bool true) ∧ Below w.heap.size w w' := by
  obtain ⟨pl, cl, rfl, hl⟩ := hl
  have HL := Lib.hid hl
  clear hl
  go_enter Try.func3, Try.ntmps3
  go_wp2_with fail
  refine (new_ok m w hm1 hm2).mono ?_
  rintro e w1 ⟨rfl, hw1⟩
  obtain ⟨q, hq⟩ : ∃ q, w.heap.size = q := ⟨_, rfl⟩
  have hqw : w.heap.size ≤ q := by omega
  have q1 : QIs w1 q [] m := by rw [hw1, ← hq]; exact QIs.new hm1 hm2
  have b1 : Below w.heap.size w w1 := by rw [hw1]; exact (Below.refl _ _).alloc (Nat.le_refl _) _
  rw [hq]
  clear hw1
  go_wp2_with fail
  refine (refNew_ok m w1 hm1 hm2).mono ?_
  rintro e w2 ⟨rfl, hw2⟩
  obtain ⟨rb, hrb⟩ : ∃ rb, w1.heap.size = rb := ⟨_, rfl⟩
  have hqrb : q < rb := by rw [← hrb]; exact q1.lt
  have r2 : RefQ w2 rb [] m := by rw [hw2, ← hrb]; exact RefQ.new hm1 hm2
  have q2 : QIs w2 q [] m := by rw [hw2]; exact q1.turn ((Turn.refl Nn _).alloc _) (fun h => h)
  have b2 : Below w.heap.size w w2 := by rw [hw2]; exact b1.alloc b1.size _
  rw [hrb]
  clear hw2 q1 b1 hq hrb
  go_wp2_with fail
  go_loopw [7] (fun x wr => ∃ (k : Nat) (L : List Int), k ≤ 100 ∧ x = .int .i64 k ∧ QIs wr q L m ∧ RefQ wr rb L m ∧ Below w.heap.size w wr) (fun x _ => 100 - (intOf x).toNat)
  case atStart => exact ⟨0, [], by omega, rfl, q2, r2, b2⟩
  case round =>
    obtain ⟨k, L, hk, rfl, qr, rr, br⟩ := hrel
    by_cases hlt : k < nl
    · have hlt' : (k : Int) < (nl : Int) := by omega
      by_cases h60 : k < 100
      · have h60' : (k : Int) < 100 := by omega
        obtain ⟨b, o, y, z, rfl, hy0, hz0⟩ := HL.out k hlt
        have hy := (br.cell (p := ⟨b, o + k * 2, none⟩) (World.block_lt_of_cell? _ _ hy0)).trans hy0
        have hblt : b < w.heap.size := World.block_lt_of_cell? _ _ hz0
        have hz := (br.cell (p := ⟨b, o + k * 2 + 1, none⟩) hblt).trans hz0
        cases y with
        | true =>
          by_cases hF : L.length < m
          · go_wp2_with fail
            have hS : Sm ⟨b, o + k * 2 + 1, none⟩ (.int .i64 z) (wr.drewN 1) := hz
            refine held_begin (Sm ⟨b, o + k * 2 + 1, none⟩ (.int .i64 z)) (by kernel_rfl) ?_
            refine held_take 0 ?_ rfl (by kernel_rfl) (by kernel_rfl) (by kernel_rfl) (fun _ _ _ h => h) (Or.inl ⟨by kernel_rfl, ?_⟩) hS ?_
            rotate_left 1
            · intro u hu; unfold Sm at hu; go_simp; first | done | with_reducible rfl
            try simp only [Act.put, List.getElem_toArray, List.getElem_cons_succ, List.getElem_cons_zero, List.setIfInBounds_toArray, List.set_cons_succ, List.set_cons_zero]
            refine held_take 1 ?_ rfl (by kernel_rfl) (by kernel_rfl) (by kernel_rfl) (fun _ _ _ h => h) (Or.inl ⟨by kernel_rfl, ?_⟩) hS ?_
            rotate_left 1
            · intro u hu; unfold Sm at hu; go_simp; first | done | with_reducible rfl
            try simp only [Act.put, List.getElem_toArray, List.getElem_cons_succ, List.getElem_cons_zero, List.setIfInBounds_toArray, List.set_cons_succ, List.set_cons_zero]
            refine held_take 2 ?_ rfl (by kernel_rfl) (by kernel_rfl) (by kernel_rfl) (fun _ _ _ h => h) (Or.inl ⟨by kernel_rfl, ?_⟩) hS ?_
            rotate_left 1
            · intro u hu; unfold Sm at hu; go_simp; first | done | with_reducible rfl
            try simp only [Act.put, List.getElem_toArray, List.getElem_cons_succ, List.getElem_cons_zero, List.setIfInBounds_toArray, List.set_cons_succ, List.set_cons_zero]
            refine held_take 3 ?_ rfl (by kernel_rfl) (by kernel_rfl) (by kernel_rfl) (fun _ _ _ h => h) (Or.inl ⟨by kernel_rfl, ?_⟩) hS ?_
            rotate_left 1
            · intro u hu; unfold Sm at hu; go_simp; first | done | with_reducible rfl
            try simp only [Act.put, List.getElem_toArray, List.getElem_cons_succ, List.getElem_cons_zero, List.setIfInBounds_toArray, List.set_cons_succ, List.set_cons_zero]
            refine held_take 4 ?_ rfl (by kernel_rfl) (by kernel_rfl) (by kernel_rfl) (fun _ _ _ h => h) (Or.inl ⟨by kernel_rfl, ?_⟩) hS ?_
            rotate_left 1
            · intro u hu; unfold Sm at hu; go_simp; first | done | with_reducible rfl
            try simp only [Act.put, List.getElem_toArray, List.getElem_cons_succ, List.getElem_cons_zero, List.setIfInBounds_toArray, List.set_cons_succ, List.set_cons_zero]
            refine held_take 5 ?_ rfl (by kernel_rfl) (by kernel_rfl) (by kernel_rfl) (fun _ _ _ h => h) (Or.inl ⟨by kernel_rfl, ?_⟩) hS ?_
            rotate_left 1
            · intro u hu; unfold Sm at hu; go_simp; first | done | with_reducible rfl
            try simp only [Act.put, List.getElem_toArray, List.getElem_cons_succ, List.getElem_cons_zero, List.setIfInBounds_toArray, List.set_cons_succ, List.set_cons_zero]
            refine held_take 7 ?_ rfl (by kernel_rfl) (by kernel_rfl) (by kernel_rfl) (fun _ _ _ h => h) (Or.inl ⟨by kernel_rfl, ?_⟩) hS ?_
            rotate_left 1
            · intro u hu; unfold Sm at hu; go_simp; first | done | with_reducible rfl
            try simp only [Act.put, List.getElem_toArray, List.getElem_cons_succ, List.getElem_cons_zero, List.setIfInBounds_toArray, List.set_cons_succ, List.set_cons_zero]
            refine held_take 8 ?_ rfl (by kernel_rfl) (by kernel_rfl) (by kernel_rfl) (fun _ _ _ h => h) (Or.inl ⟨by kernel_rfl, ?_⟩) hS ?_
            rotate_left 1
            · intro u hu; unfold Sm at hu; go_simp; first | done | with_reducible rfl
            try simp only [Act.put, List.getElem_toArray, List.getElem_cons_succ, List.getElem_cons_zero, List.setIfInBounds_toArray, List.set_cons_succ, List.set_cons_zero]
            refine held_take 9 ?_ rfl (by kernel_rfl) (by kernel_rfl) (by kernel_rfl) (fun _ _ _ h => h) (Or.inl ⟨by kernel_rfl, ?_⟩) hS ?_
            rotate_left 1
            · intro u hu; unfold Sm at hu; go_simp; first | done | with_reducible rfl
            try simp only [Act.put, List.getElem_toArray, List.getElem_cons_succ, List.getElem_cons_zero, List.setIfInBounds_toArray, List.set_cons_succ, List.set_cons_zero]
            refine held_take 10 ?_ rfl (by kernel_rfl) (by kernel_rfl) (by kernel_rfl) (fun _ _ _ h => h) (Or.inl ⟨by kernel_rfl, ?_⟩) hS ?_
            rotate_left 1
            · intro u hu; unfold Sm at hu; go_simp; first | done | with_reducible rfl
            try simp only [Act.put, List.getElem_toArray, List.getElem_cons_succ, List.getElem_cons_zero, List.setIfInBounds_toArray, List.set_cons_succ, List.set_cons_zero]
            refine held_take 11 ?_ rfl (by kernel_rfl) (by kernel_rfl) (by kernel_rfl) (fun _ _ _ h => h) (Or.inl ⟨by kernel_rfl, ?_⟩) hS ?_
            rotate_left 1
            · intro u hu; unfold Sm at hu; go_simp; first | done | with_reducible rfl
            try simp only [Act.put, List.getElem_toArray, List.getElem_cons_succ, List.getElem_cons_zero, List.setIfInBounds_toArray, List.set_cons_succ, List.set_cons_zero]
            refine held_take 12 ?_ rfl (by kernel_rfl) (by kernel_rfl) (by kernel_rfl) (fun _ _ _ h => h) (Or.inl ⟨by kernel_rfl, ?_⟩) hS ?_
            rotate_left 1
            · intro u hu; unfold Sm at hu; go_simp; first | done | with_reducible rfl
            try simp only [Act.put, List.getElem_toArray, List.getElem_cons_succ, List.getElem_cons_zero, List.setIfInBounds_toArray, List.set_cons_succ, List.set_cons_zero]
            refine held_one 6 (by kernel_rfl) rfl (by kernel_rfl) (fun Ka hKa => ?_)
            go_simp
            refine (putq_ok (qr.drewN _) z hF).mono ?_
            rintro e w3 ⟨rfl, q3, t3⟩
            have r3 : RefQ w3 rb L m := (rr.drewN _).turn t3 (fun x hx => by have : x = q := hx; omega)
            have b3 := below_turn_q (below_drewN br _) t3 hqw (Nat.le_refl _)
            have hS : Sm ⟨b, o + k * 2 + 1, none⟩ (.int .i64 z) w3 := (b3.cell (p := ⟨b, o + k * 2 + 1, none⟩) hblt).trans hz0
            refine hKa _ _ hS ?_
            clear hKa Ka
            try simp only [Act.put, List.getElem_toArray, List.getElem_cons_succ, List.getElem_cons_zero, List.setIfInBounds_toArray, List.set_cons_succ, List.set_cons_zero]
            refine held_one 13 (by kernel_rfl) rfl (by kernel_rfl) (fun Kb hKb => ?_)
            go_simp
            refine (refPut_ok r3 z hF).mono ?_
            rintro e w4 ⟨rfl, r4, t4⟩
            have q4 : QIs w4 q (L ++ [z]) m := q3.turn t4 (fun hx => by have : rb ≤ q := hx; omega)
            have b4 : Below w.heap.size w w4 := Turn.below b3 t4 (fun x hx => by have : rb ≤ x := hx; omega) b3.size
            have hS : Sm ⟨b, o + k * 2 + 1, none⟩ (.int .i64 z) w4 := (b4.cell (p := ⟨b, o + k * 2 + 1, none⟩) hblt).trans hz0
            refine hKb _ _ hS ?_
            clear hKb Kb
            try simp only [Act.put, List.getElem_toArray, List.getElem_cons_succ, List.getElem_cons_zero, List.setIfInBounds_toArray, List.set_cons_succ, List.set_cons_zero]
            refine held_take 14 ?_ rfl (by kernel_rfl) (by kernel_rfl) (by kernel_rfl) (fun _ _ _ h => h) (Or.inl ⟨by kernel_rfl, ?_⟩) hS ?_
            rotate_left 1
            · intro u hu; unfold Sm at hu; go_simp; first | done | with_reducible rfl
            try simp only [Act.put, List.getElem_toArray, List.getElem_cons_succ, List.getElem_cons_zero, List.setIfInBounds_toArray, List.set_cons_succ, List.set_cons_zero]
            refine wpAnyH_done (by kernel_rfl) ?_ _
            clear hS
            go_wp2_with fail
            obtain ⟨LL, hLL⟩ : ∃ LL, (L ++ [z]) = LL := ⟨_, rfl⟩
            rw [hLL] at q4 r4
            clear hLL
            obtain ⟨hr1, hr2, v, hv1, hv2⟩ := id r4
            obtain ⟨pa', cap', rfl⟩ := hv2.shape
            obtain ⟨n', hn'⟩ : ∃ n', LL.length = n' := ⟨_, rfl⟩
            obtain ⟨bf, hbf⟩ : ∃ bf, ((LL.length : Int) == (m : Int)) = bf := ⟨_, rfl⟩
            have hbf2 : decide (m ≤ LL.length) = bf := by
              rw [← hbf]; by_cases hx : LL.length = m
              · rw [decide_eq_true (by omega), beq_iff_eq.2 (by omega)]
              · rw [decide_eq_false (by omega), beq_eq_false_iff_ne.2 (by omega)]
            have hc5 := cell_blk hv1 0
            simp only [List.getElem?_toArray, List.getElem?_cons_zero] at hc5
            rw [hn'] at hc5
            have HN := Lib.hid hn'
            have HB := Lib.hid hbf
            have HB2 := Lib.hid hbf2
            have HV := Lib.hid hv2
            have hS : Sm ⟨rb, 0, none⟩ (.slice pa' n' cap') (w4.drewN 1) := hc5
            have hle100 : n' ≤ 16 := by omega
            clear hn' hbf hbf2 hv1 hv2 hc5
            refine held_begin (Sm ⟨rb, 0, none⟩ (.slice pa' n' cap')) (by kernel_rfl) ?_
            refine held_take 0 ?_ rfl (by kernel_rfl) (by kernel_rfl) (by kernel_rfl) (fun _ _ _ h => h) (Or.inl ⟨by kernel_rfl, ?_⟩) hS ?_
            rotate_left 1
            · intro u hu; unfold Sm at hu; go_simp; first | done | with_reducible rfl
            try simp only [Act.put, List.getElem_toArray, List.getElem_cons_succ, List.getElem_cons_zero, List.setIfInBounds_toArray, List.set_cons_succ, List.set_cons_zero]
            refine held_take 2 ?_ rfl (by kernel_rfl) (by kernel_rfl) (by kernel_rfl) (fun _ _ _ h => h) (Or.inl ⟨by kernel_rfl, ?_⟩) hS ?_
            rotate_left 1
            · intro u hu; unfold Sm at hu; go_simp; first | done | with_reducible rfl
            try simp only [Act.put, List.getElem_toArray, List.getElem_cons_succ, List.getElem_cons_zero, List.setIfInBounds_toArray, List.set_cons_succ, List.set_cons_zero]
            refine held_take 3 ?_ rfl (by kernel_rfl) (by kernel_rfl) (by kernel_rfl) (fun _ _ _ h => h) (Or.inl ⟨by kernel_rfl, ?_⟩) hS ?_
            rotate_left 1
            · intro u hu; unfold Sm at hu; go_simp; first | done | with_reducible rfl
            try simp only [Act.put, List.getElem_toArray, List.getElem_cons_succ, List.getElem_cons_zero, List.setIfInBounds_toArray, List.set_cons_succ, List.set_cons_zero]
            refine held_take 4 ?_ rfl (by kernel_rfl) (by kernel_rfl) (by kernel_rfl) (fun _ _ _ h => h) (Or.inl ⟨by kernel_rfl, ?_⟩) hS ?_
            rotate_left 1
            · intro u hu; unfold Sm at hu; go_simp; first | done | with_reducible rfl
            try simp only [Act.put, List.getElem_toArray, List.getElem_cons_succ, List.getElem_cons_zero, List.setIfInBounds_toArray, List.set_cons_succ, List.set_cons_zero]
            refine held_take 5 ?_ rfl (by kernel_rfl) (by kernel_rfl) (by kernel_rfl) (fun _ _ _ h => h) (Or.inl ⟨by kernel_rfl, ?_⟩) hS ?_
            rotate_left 1
            · intro u hu; unfold Sm at hu; go_simp; first | done | with_reducible rfl
            try simp only [Act.put, List.getElem_toArray, List.getElem_cons_succ, List.getElem_cons_zero, List.setIfInBounds_toArray, List.set_cons_succ, List.set_cons_zero]
            refine held_take 6 ?_ rfl (by kernel_rfl) (by kernel_rfl) (by kernel_rfl) (fun _ _ _ h => h) (Or.inl ⟨by kernel_rfl, ?_⟩) hS ?_
            rotate_left 1
            · intro u hu; unfold Sm at hu; go_simp; first | done | with_reducible rfl
            try simp only [Act.put, List.getElem_toArray, List.getElem_cons_succ, List.getElem_cons_zero, List.setIfInBounds_toArray, List.set_cons_succ, List.set_cons_zero]
            refine held_one 1 (by kernel_rfl) rfl (by kernel_rfl) (fun Kc hKc => ?_)
            go_simp
            refine (lenqn (q4.drewN _) HN.out).mono ?_
            rintro e w5 ⟨rfl, k5, rfl⟩
            have hS : Sm ⟨rb, 0, none⟩ (.slice pa' n' cap') (w4.drewN (1 + k5)) := hS
            refine hKc _ _ hS ?_
            clear hKc Kc
            try simp only [Act.put, List.getElem_toArray, List.getElem_cons_succ, List.getElem_cons_zero, List.setIfInBounds_toArray, List.set_cons_succ, List.set_cons_zero]
            refine held_take 7 ?_ rfl (by kernel_rfl) (by kernel_rfl) (by kernel_rfl) (fun _ _ _ h => h) (Or.inl ⟨by kernel_rfl, ?_⟩) hS ?_
            rotate_left 1
            · intro u hu; unfold Sm at hu; go_simp; first | done | with_reducible rfl
            try simp only [Act.put, List.getElem_toArray, List.getElem_cons_succ, List.getElem_cons_zero, List.setIfInBounds_toArray, List.set_cons_succ, List.set_cons_zero]
            refine held_take 8 ?_ rfl (by kernel_rfl) (by kernel_rfl) (by kernel_rfl) (fun _ _ _ h => h) (Or.inl ⟨by kernel_rfl, ?_⟩) hS ?_
            rotate_left 1
            · intro u hu; unfold Sm at hu; go_simp; first | done | with_reducible rfl
            try simp only [Act.put, List.getElem_toArray, List.getElem_cons_succ, List.getElem_cons_zero, List.setIfInBounds_toArray, List.set_cons_succ, List.set_cons_zero]
            refine held_take 9 ?_ rfl (by kernel_rfl) (by kernel_rfl) (by kernel_rfl) (fun _ _ _ h => h) (Or.inl ⟨by kernel_rfl, ?_⟩) hS ?_
            rotate_left 1
            · intro u hu; unfold Sm at hu; go_simp; first | done | with_reducible rfl
            try simp only [Act.put, List.getElem_toArray, List.getElem_cons_succ, List.getElem_cons_zero, List.setIfInBounds_toArray, List.set_cons_succ, List.set_cons_zero]
            refine held_take 11 ?_ rfl (by kernel_rfl) (by kernel_rfl) (by kernel_rfl) (fun _ _ _ h => h) (Or.inl ⟨by kernel_rfl, ?_⟩) hS ?_
            rotate_left 1
            · intro u hu; unfold Sm at hu; go_simp; first | done | with_reducible rfl
            try simp only [Act.put, List.getElem_toArray, List.getElem_cons_succ, List.getElem_cons_zero, List.setIfInBounds_toArray, List.set_cons_succ, List.set_cons_zero]
            refine held_one 10 (by kernel_rfl) rfl (by kernel_rfl) (fun Kd hKd => ?_)
            go_simp
            refine (fullqb (q4.drewN _) HB.out).mono ?_
            rintro e w6 ⟨rfl, k6, rfl⟩
            have hS : Sm ⟨rb, 0, none⟩ (.slice pa' n' cap') (w4.drewN (1 + k5 + k6)) := hS
            refine hKd _ _ hS ?_
            clear hKd Kd
            try simp only [Act.put, List.getElem_toArray, List.getElem_cons_succ, List.getElem_cons_zero, List.setIfInBounds_toArray, List.set_cons_succ, List.set_cons_zero]
            refine held_one 12 (by kernel_rfl) rfl (by kernel_rfl) (fun Ke hKe => ?_)
            go_simp
            refine (refFullb (r4.drewN _) HB2.out).mono ?_
            rintro e w7 ⟨rfl, k7, rfl⟩
            have hS : Sm ⟨rb, 0, none⟩ (.slice pa' n' cap') (w4.drewN (1 + k5 + k6 + k7)) := hS
            refine hKe _ _ hS ?_
            clear hKe Ke
            try simp only [Act.put, List.getElem_toArray, List.getElem_cons_succ, List.getElem_cons_zero, List.setIfInBounds_toArray, List.set_cons_succ, List.set_cons_zero]
            refine held_take 13 ?_ rfl (by kernel_rfl) (by kernel_rfl) (by kernel_rfl) (fun _ _ _ h => h) (Or.inl ⟨by kernel_rfl, ?_⟩) hS ?_
            rotate_left 1
            · intro u hu; unfold Sm at hu; go_simp; first | done | with_reducible rfl
            try simp only [Act.put, List.getElem_toArray, List.getElem_cons_succ, List.getElem_cons_zero, List.setIfInBounds_toArray, List.set_cons_succ, List.set_cons_zero]
            refine held_take 14 ?_ rfl (by kernel_rfl) (by kernel_rfl) (by kernel_rfl) (fun _ _ _ h => h) (Or.inl ⟨by kernel_rfl, ?_⟩) hS ?_
            rotate_left 1
            · intro u hu; unfold Sm at hu; go_simp; first | done | with_reducible rfl
            try simp only [Act.put, List.getElem_toArray, List.getElem_cons_succ, List.getElem_cons_zero, List.setIfInBounds_toArray, List.set_cons_succ, List.set_cons_zero]
            refine held_take 15 ?_ rfl (by kernel_rfl) (by kernel_rfl) (by kernel_rfl) (fun _ _ _ h => h) (Or.inl ⟨by kernel_rfl, ?_⟩) hS ?_
            rotate_left 1
            · intro u hu; unfold Sm at hu; go_simp; first | done | with_reducible rfl
            try simp only [Act.put, List.getElem_toArray, List.getElem_cons_succ, List.getElem_cons_zero, List.setIfInBounds_toArray, List.set_cons_succ, List.set_cons_zero]
            refine held_take 16 ?_ rfl (by kernel_rfl) (by kernel_rfl) (by kernel_rfl) (fun _ _ _ h => h) (Or.inl ⟨by kernel_rfl, ?_⟩) hS ?_
            rotate_left 1
            · intro u hu; unfold Sm at hu; go_simp; first | done | with_reducible rfl
            try simp only [Act.put, List.getElem_toArray, List.getElem_cons_succ, List.getElem_cons_zero, List.setIfInBounds_toArray, List.set_cons_succ, List.set_cons_zero]
            refine held_take 18 ?_ rfl (by kernel_rfl) (by kernel_rfl) (by kernel_rfl) (fun _ _ _ h => h) (Or.inl ⟨by kernel_rfl, ?_⟩) hS ?_
            rotate_left 1
            · intro u hu; unfold Sm at hu; go_simp; first | done | with_reducible rfl
            try simp only [Act.put, List.getElem_toArray, List.getElem_cons_succ, List.getElem_cons_zero, List.setIfInBounds_toArray, List.set_cons_succ, List.set_cons_zero]
            refine held_take 19 ?_ rfl (by kernel_rfl) (by kernel_rfl) (by kernel_rfl) (fun _ _ _ h => h) (Or.inl ⟨by kernel_rfl, ?_⟩) hS ?_
            rotate_left 1
            · intro u hu; unfold Sm at hu; go_simp; first | done | with_reducible rfl
            try simp only [Act.put, List.getElem_toArray, List.getElem_cons_succ, List.getElem_cons_zero, List.setIfInBounds_toArray, List.set_cons_succ, List.set_cons_zero]
            refine held_take 20 ?_ rfl (by kernel_rfl) (by kernel_rfl) (by kernel_rfl) (fun _ _ _ h => h) (Or.inl ⟨by kernel_rfl, ?_⟩) hS ?_
            rotate_left 1
            · intro u hu; unfold Sm at hu; go_simp; first | done | with_reducible rfl
            try simp only [Act.put, List.getElem_toArray, List.getElem_cons_succ, List.getElem_cons_zero, List.setIfInBounds_toArray, List.set_cons_succ, List.set_cons_zero]
            refine held_take 21 ?_ rfl (by kernel_rfl) (by kernel_rfl) (by kernel_rfl) (fun _ _ _ h => h) (Or.inl ⟨by kernel_rfl, ?_⟩) hS ?_
            rotate_left 1
            · intro u hu; unfold Sm at hu; go_simp; first | done | with_reducible rfl
            try simp only [Act.put, List.getElem_toArray, List.getElem_cons_succ, List.getElem_cons_zero, List.setIfInBounds_toArray, List.set_cons_succ, List.set_cons_zero]
            refine held_one 17 (by kernel_rfl) rfl (by kernel_rfl) (fun Kf hKf => ?_)
            go_simp
            refine (listq rowsSaid (q4.drewN _)).mono ?_
            rintro e w8 ⟨⟨v8, rfl, n8⟩, t8⟩
            have b8 := below_turn_n (below_drewN b4 _) t8 (Nat.le_refl _)
            have q8 := (q4.drewN _).turn t8 (fun h => h)
            have r8 := (r4.drewN _).turn t8 (fun _ h => h.elim)
            have s8 : SlI w8 (.slice pa' n' cap') LL := by
              rw [← HN.out]; exact (HV.out.turn (((Turn.refl Nn w4).drewN _).trans t8) (fun _ h => h.elim)).sl
            have hS : Sm ⟨rb, 0, none⟩ (.slice pa' n' cap') w8 := (World.cell?_of_block (w := w4) (a := ⟨rb, 0, none⟩) (t8.block rb (by have := r4.lt; simpa using this) (fun h => h))).trans hS
            refine hKf _ _ hS ?_
            clear hKf Kf
            try simp only [Act.put, List.getElem_toArray, List.getElem_cons_succ, List.getElem_cons_zero, List.setIfInBounds_toArray, List.set_cons_succ, List.set_cons_zero]
            refine held_one 22 (by kernel_rfl) rfl (by kernel_rfl) (fun Kg hKg => ?_)
            go_simp
            refine (words20_same n8.sl s8 (by rw [HN.out]; omega)).mono ?_
            rintro e w9 ⟨rfl, k9, rfl⟩
            have hS : Sm ⟨rb, 0, none⟩ (.slice pa' n' cap') (w8.drewN k9) := hS
            refine hKg _ _ hS ?_
            clear hKg Kg
            try simp only [Act.put, List.getElem_toArray, List.getElem_cons_succ, List.getElem_cons_zero, List.setIfInBounds_toArray, List.set_cons_succ, List.set_cons_zero]
            refine held_take 23 ?_ rfl (by kernel_rfl) (by kernel_rfl) (by kernel_rfl) (fun _ _ _ h => h) (Or.inl ⟨by kernel_rfl, ?_⟩) hS ?_
            rotate_left 1
            · intro u hu; unfold Sm at hu; go_simp; first | done | with_reducible rfl
            try simp only [Act.put, List.getElem_toArray, List.getElem_cons_succ, List.getElem_cons_zero, List.setIfInBounds_toArray, List.set_cons_succ, List.set_cons_zero]
            refine held_take 24 ?_ rfl (by kernel_rfl) (by kernel_rfl) (by kernel_rfl) (fun _ _ _ h => h) (Or.inl ⟨by kernel_rfl, ?_⟩) hS ?_
            rotate_left 1
            · intro u hu; unfold Sm at hu; go_simp; first | done | with_reducible rfl
            try simp only [Act.put, List.getElem_toArray, List.getElem_cons_succ, List.getElem_cons_zero, List.setIfInBounds_toArray, List.set_cons_succ, List.set_cons_zero]
            refine wpAnyH_done (by kernel_rfl) ?_ _
            clear hS
            go_wp2_with fail
            go_roundw
            case rel => exact ⟨k + 1, LL, by omega, by go_num, q8.drewN k9, r8.drewN k9, below_drewN b8 k9⟩
            case measure => simp [intOf]; omega
          · have hE : L.length = m := by have := qr.le; omega
            go_wp2_with fail
            have hS : Sm ⟨b, o + k * 2 + 1, none⟩ (.int .i64 z) (wr.drewN 1) := hz
            refine held_begin (Sm ⟨b, o + k * 2 + 1, none⟩ (.int .i64 z)) (by kernel_rfl) ?_
            refine held_take 0 ?_ rfl (by kernel_rfl) (by kernel_rfl) (by kernel_rfl) (fun _ _ _ h => h) (Or.inl ⟨by kernel_rfl, ?_⟩) hS ?_
            rotate_left 1
            · intro u hu; unfold Sm at hu; go_simp; first | done | with_reducible rfl
            try simp only [Act.put, List.getElem_toArray, List.getElem_cons_succ, List.getElem_cons_zero, List.setIfInBounds_toArray, List.set_cons_succ, List.set_cons_zero]
            refine held_take 1 ?_ rfl (by kernel_rfl) (by kernel_rfl) (by kernel_rfl) (fun _ _ _ h => h) (Or.inl ⟨by kernel_rfl, ?_⟩) hS ?_
            rotate_left 1
            · intro u hu; unfold Sm at hu; go_simp; first | done | with_reducible rfl
            try simp only [Act.put, List.getElem_toArray, List.getElem_cons_succ, List.getElem_cons_zero, List.setIfInBounds_toArray, List.set_cons_succ, List.set_cons_zero]
            refine held_take 2 ?_ rfl (by kernel_rfl) (by kernel_rfl) (by kernel_rfl) (fun _ _ _ h => h) (Or.inl ⟨by kernel_rfl, ?_⟩) hS ?_
            rotate_left 1
            · intro u hu; unfold Sm at hu; go_simp; first | done | with_reducible rfl
            try simp only [Act.put, List.getElem_toArray, List.getElem_cons_succ, List.getElem_cons_zero, List.setIfInBounds_toArray, List.set_cons_succ, List.set_cons_zero]
            refine held_take 3 ?_ rfl (by kernel_rfl) (by kernel_rfl) (by kernel_rfl) (fun _ _ _ h => h) (Or.inl ⟨by kernel_rfl, ?_⟩) hS ?_
            rotate_left 1
            · intro u hu; unfold Sm at hu; go_simp; first | done | with_reducible rfl
            try simp only [Act.put, List.getElem_toArray, List.getElem_cons_succ, List.getElem_cons_zero, List.setIfInBounds_toArray, List.set_cons_succ, List.set_cons_zero]
            refine held_take 4 ?_ rfl (by kernel_rfl) (by kernel_rfl) (by kernel_rfl) (fun _ _ _ h => h) (Or.inl ⟨by kernel_rfl, ?_⟩) hS ?_
            rotate_left 1
            · intro u hu; unfold Sm at hu; go_simp; first | done | with_reducible rfl
            try simp only [Act.put, List.getElem_toArray, List.getElem_cons_succ, List.getElem_cons_zero, List.setIfInBounds_toArray, List.set_cons_succ, List.set_cons_zero]
            refine held_take 5 ?_ rfl (by kernel_rfl) (by kernel_rfl) (by kernel_rfl) (fun _ _ _ h => h) (Or.inl ⟨by kernel_rfl, ?_⟩) hS ?_
            rotate_left 1
            · intro u hu; unfold Sm at hu; go_simp; first | done | with_reducible rfl
            try simp only [Act.put, List.getElem_toArray, List.getElem_cons_succ, List.getElem_cons_zero, List.setIfInBounds_toArray, List.set_cons_succ, List.set_cons_zero]
            refine held_take 7 ?_ rfl (by kernel_rfl) (by kernel_rfl) (by kernel_rfl) (fun _ _ _ h => h) (Or.inl ⟨by kernel_rfl, ?_⟩) hS ?_
            rotate_left 1
            · intro u hu; unfold Sm at hu; go_simp; first | done | with_reducible rfl
            try simp only [Act.put, List.getElem_toArray, List.getElem_cons_succ, List.getElem_cons_zero, List.setIfInBounds_toArray, List.set_cons_succ, List.set_cons_zero]
            refine held_take 8 ?_ rfl (by kernel_rfl) (by kernel_rfl) (by kernel_rfl) (fun _ _ _ h => h) (Or.inl ⟨by kernel_rfl, ?_⟩) hS ?_
            rotate_left 1
            · intro u hu; unfold Sm at hu; go_simp; first | done | with_reducible rfl
            try simp only [Act.put, List.getElem_toArray, List.getElem_cons_succ, List.getElem_cons_zero, List.setIfInBounds_toArray, List.set_cons_succ, List.set_cons_zero]
            refine held_take 9 ?_ rfl (by kernel_rfl) (by kernel_rfl) (by kernel_rfl) (fun _ _ _ h => h) (Or.inl ⟨by kernel_rfl, ?_⟩) hS ?_
            rotate_left 1
            · intro u hu; unfold Sm at hu; go_simp; first | done | with_reducible rfl
            try simp only [Act.put, List.getElem_toArray, List.getElem_cons_succ, List.getElem_cons_zero, List.setIfInBounds_toArray, List.set_cons_succ, List.set_cons_zero]
            refine held_take 10 ?_ rfl (by kernel_rfl) (by kernel_rfl) (by kernel_rfl) (fun _ _ _ h => h) (Or.inl ⟨by kernel_rfl, ?_⟩) hS ?_
            rotate_left 1
            · intro u hu; unfold Sm at hu; go_simp; first | done | with_reducible rfl
            try simp only [Act.put, List.getElem_toArray, List.getElem_cons_succ, List.getElem_cons_zero, List.setIfInBounds_toArray, List.set_cons_succ, List.set_cons_zero]
            refine held_take 11 ?_ rfl (by kernel_rfl) (by kernel_rfl) (by kernel_rfl) (fun _ _ _ h => h) (Or.inl ⟨by kernel_rfl, ?_⟩) hS ?_
            rotate_left 1
            · intro u hu; unfold Sm at hu; go_simp; first | done | with_reducible rfl
            try simp only [Act.put, List.getElem_toArray, List.getElem_cons_succ, List.getElem_cons_zero, List.setIfInBounds_toArray, List.set_cons_succ, List.set_cons_zero]
            refine held_take 12 ?_ rfl (by kernel_rfl) (by kernel_rfl) (by kernel_rfl) (fun _ _ _ h => h) (Or.inl ⟨by kernel_rfl, ?_⟩) hS ?_
            rotate_left 1
            · intro u hu; unfold Sm at hu; go_simp; first | done | with_reducible rfl
            try simp only [Act.put, List.getElem_toArray, List.getElem_cons_succ, List.getElem_cons_zero, List.setIfInBounds_toArray, List.set_cons_succ, List.set_cons_zero]
            refine held_one 6 (by kernel_rfl) rfl (by kernel_rfl) (fun Ka hKa => ?_)
            go_simp
            refine (putq_full (qr.drewN _) z hE).mono ?_
            rintro e w3 ⟨rfl, q3, t3⟩
            have r3 : RefQ w3 rb L m := (rr.drewN _).turn t3 (fun x hx => by have : x = q := hx; omega)
            have b3 := below_turn_q (below_drewN br _) t3 hqw (Nat.le_refl _)
            have hS : Sm ⟨b, o + k * 2 + 1, none⟩ (.int .i64 z) w3 := (b3.cell (p := ⟨b, o + k * 2 + 1, none⟩) hblt).trans hz0
            refine hKa _ _ hS ?_
            clear hKa Ka
            try simp only [Act.put, List.getElem_toArray, List.getElem_cons_succ, List.getElem_cons_zero, List.setIfInBounds_toArray, List.set_cons_succ, List.set_cons_zero]
            refine held_one 13 (by kernel_rfl) rfl (by kernel_rfl) (fun Kb hKb => ?_)
            go_simp
            refine (refPut_full r3 z hE).mono ?_
            rintro e w4 ⟨rfl, r4, t4⟩
            have q4 : QIs w4 q (L) m := q3.turn t4 (fun hx => by have : rb ≤ q := hx; omega)
            have b4 : Below w.heap.size w w4 := Turn.below b3 t4 (fun x hx => by have : rb ≤ x := hx; omega) b3.size
            have hS : Sm ⟨b, o + k * 2 + 1, none⟩ (.int .i64 z) w4 := (b4.cell (p := ⟨b, o + k * 2 + 1, none⟩) hblt).trans hz0
            refine hKb _ _ hS ?_
            clear hKb Kb
            try simp only [Act.put, List.getElem_toArray, List.getElem_cons_succ, List.getElem_cons_zero, List.setIfInBounds_toArray, List.set_cons_succ, List.set_cons_zero]
            refine held_take 14 ?_ rfl (by kernel_rfl) (by kernel_rfl) (by kernel_rfl) (fun _ _ _ h => h) (Or.inl ⟨by kernel_rfl, ?_⟩) hS ?_
            rotate_left 1
            · intro u hu; unfold Sm at hu; go_simp; first | done | with_reducible rfl
            try simp only [Act.put, List.getElem_toArray, List.getElem_cons_succ, List.getElem_cons_zero, List.setIfInBounds_toArray, List.set_cons_succ, List.set_cons_zero]
            refine wpAnyH_done (by kernel_rfl) ?_ _
            clear hS
            go_wp2_with fail
            obtain ⟨LL, hLL⟩ : ∃ LL, L = LL := ⟨_, rfl⟩
            rw [hLL] at q4 r4
            clear hLL
            obtain ⟨hr1, hr2, v, hv1, hv2⟩ := id r4
            obtain ⟨pa', cap', rfl⟩ := hv2.shape
            obtain ⟨n', hn'⟩ : ∃ n', LL.length = n' := ⟨_, rfl⟩
            obtain ⟨bf, hbf⟩ : ∃ bf, ((LL.length : Int) == (m : Int)) = bf := ⟨_, rfl⟩
            have hbf2 : decide (m ≤ LL.length) = bf := by
              rw [← hbf]; by_cases hx : LL.length = m
              · rw [decide_eq_true (by omega), beq_iff_eq.2 (by omega)]
              · rw [decide_eq_false (by omega), beq_eq_false_iff_ne.2 (by omega)]
            have hc5 := cell_blk hv1 0
            simp only [List.getElem?_toArray, List.getElem?_cons_zero] at hc5
            rw [hn'] at hc5
            have HN := Lib.hid hn'
            have HB := Lib.hid hbf
            have HB2 := Lib.hid hbf2
            have HV := Lib.hid hv2
            have hS : Sm ⟨rb, 0, none⟩ (.slice pa' n' cap') (w4.drewN 1) := hc5
            have hle100 : n' ≤ 16 := by omega
            clear hn' hbf hbf2 hv1 hv2 hc5
            refine held_begin (Sm ⟨rb, 0, none⟩ (.slice pa' n' cap')) (by kernel_rfl) ?_
            refine held_take 0 ?_ rfl (by kernel_rfl) (by kernel_rfl) (by kernel_rfl) (fun _ _ _ h => h) (Or.inl ⟨by kernel_rfl, ?_⟩) hS ?_
            rotate_left 1
            · intro u hu; unfold Sm at hu; go_simp; first | done | with_reducible rfl
            try simp only [Act.put, List.getElem_toArray, List.getElem_cons_succ, List.getElem_cons_zero, List.setIfInBounds_toArray, List.set_cons_succ, List.set_cons_zero]
            refine held_take 2 ?_ rfl (by kernel_rfl) (by kernel_rfl) (by kernel_rfl) (fun _ _ _ h => h) (Or.inl ⟨by kernel_rfl, ?_⟩) hS ?_
            rotate_left 1
            · intro u hu; unfold Sm at hu; go_simp; first | done | with_reducible rfl
            try simp only [Act.put, List.getElem_toArray, List.getElem_cons_succ, List.getElem_cons_zero, List.setIfInBounds_toArray, List.set_cons_succ, List.set_cons_zero]
            refine held_take 3 ?_ rfl (by kernel_rfl) (by kernel_rfl) (by kernel_rfl) (fun _ _ _ h => h) (Or.inl ⟨by kernel_rfl, ?_⟩) hS ?_
            rotate_left 1
            · intro u hu; unfold Sm at hu; go_simp; first | done | with_reducible rfl
            try simp only [Act.put, List.getElem_toArray, List.getElem_cons_succ, List.getElem_cons_zero, List.setIfInBounds_toArray, List.set_cons_succ, List.set_cons_zero]
            refine held_take 4 ?_ rfl (by kernel_rfl) (by kernel_rfl) (by kernel_rfl) (fun _ _ _ h => h) (Or.inl ⟨by kernel_rfl, ?_⟩) hS ?_
            rotate_left 1
            · intro u hu; unfold Sm at hu; go_simp; first | done | with_reducible rfl
            try simp only [Act.put, List.getElem_toArray, List.getElem_cons_succ, List.getElem_cons_zero, List.setIfInBounds_toArray, List.set_cons_succ, List.set_cons_zero]
            refine held_take 5 ?_ rfl (by kernel_rfl) (by kernel_rfl) (by kernel_rfl) (fun _ _ _ h => h) (Or.inl ⟨by kernel_rfl, ?_⟩) hS ?_
            rotate_left 1
            · intro u hu; unfold Sm at hu; go_simp; first | done | with_reducible rfl
            try simp only [Act.put, List.getElem_toArray, List.getElem_cons_succ, List.getElem_cons_zero, List.setIfInBounds_toArray, List.set_cons_succ, List.set_cons_zero]
            refine held_take 6 ?_ rfl (by kernel_rfl) (by kernel_rfl) (by kernel_rfl) (fun _ _ _ h => h) (Or.inl ⟨by kernel_rfl, ?_⟩) hS ?_
            rotate_left 1
            · intro u hu; unfold Sm at hu; go_simp; first | done | with_reducible rfl
            try simp only [Act.put, List.getElem_toArray, List.getElem_cons_succ, List.getElem_cons_zero, List.setIfInBounds_toArray, List.set_cons_succ, List.set_cons_zero]
            refine held_one 1 (by kernel_rfl) rfl (by kernel_rfl) (fun Kc hKc => ?_)
            go_simp
            refine (lenqn (q4.drewN _) HN.out).mono ?_
            rintro e w5 ⟨rfl, k5, rfl⟩
            have hS : Sm ⟨rb, 0, none⟩ (.slice pa' n' cap') (w4.drewN (1 + k5)) := hS
            refine hKc _ _ hS ?_
            clear hKc Kc
            try simp only [Act.put, List.getElem_toArray, List.getElem_cons_succ, List.getElem_cons_zero, List.setIfInBounds_toArray, List.set_cons_succ, List.set_cons_zero]
            refine held_take 7 ?_ rfl (by kernel_rfl) (by kernel_rfl) (by kernel_rfl) (fun _ _ _ h => h) (Or.inl ⟨by kernel_rfl, ?_⟩) hS ?_
            rotate_left 1
            · intro u hu; unfold Sm at hu; go_simp; first | done | with_reducible rfl
            try simp only [Act.put, List.getElem_toArray, List.getElem_cons_succ, List.getElem_cons_zero, List.setIfInBounds_toArray, List.set_cons_succ, List.set_cons_zero]
            refine held_take 8 ?_ rfl (by kernel_rfl) (by kernel_rfl) (by kernel_rfl) (fun _ _ _ h => h) (Or.inl ⟨by kernel_rfl, ?_⟩) hS ?_
            rotate_left 1
            · intro u hu; unfold Sm at hu; go_simp; first | done | with_reducible rfl
            try simp only [Act.put, List.getElem_toArray, List.getElem_cons_succ, List.getElem_cons_zero, List.setIfInBounds_toArray, List.set_cons_succ, List.set_cons_zero]
            refine held_take 9 ?_ rfl (by kernel_rfl) (by kernel_rfl) (by kernel_rfl) (fun _ _ _ h => h) (Or.inl ⟨by kernel_rfl, ?_⟩) hS ?_
            rotate_left 1
            · intro u hu; unfold Sm at hu; go_simp; first | done | with_reducible rfl
            try simp only [Act.put, List.getElem_toArray, List.getElem_cons_succ, List.getElem_cons_zero, List.setIfInBounds_toArray, List.set_cons_succ, List.set_cons_zero]
            refine held_take 11 ?_ rfl (by kernel_rfl) (by kernel_rfl) (by kernel_rfl) (fun _ _ _ h => h) (Or.inl ⟨by kernel_rfl, ?_⟩) hS ?_
            rotate_left 1
            · intro u hu; unfold Sm at hu; go_simp; first | done | with_reducible rfl
            try simp only [Act.put, List.getElem_toArray, List.getElem_cons_succ, List.getElem_cons_zero, List.setIfInBounds_toArray, List.set_cons_succ, List.set_cons_zero]
            refine held_one 10 (by kernel_rfl) rfl (by kernel_rfl) (fun Kd hKd => ?_)
            go_simp
            refine (fullqb (q4.drewN _) HB.out).mono ?_
            rintro e w6 ⟨rfl, k6, rfl⟩
            have hS : Sm ⟨rb, 0, none⟩ (.slice pa' n' cap') (w4.drewN (1 + k5 + k6)) := hS
            refine hKd _ _ hS ?_
            clear hKd Kd
            try simp only [Act.put, List.getElem_toArray, List.getElem_cons_succ, List.getElem_cons_zero, List.setIfInBounds_toArray, List.set_cons_succ, List.set_cons_zero]
            refine held_one 12 (by kernel_rfl) rfl (by kernel_rfl) (fun Ke hKe => ?_)
            go_simp
            refine (refFullb (r4.drewN _) HB2.out).mono ?_
            rintro e w7 ⟨rfl, k7, rfl⟩
            have hS : Sm ⟨rb, 0, none⟩ (.slice pa' n' cap') (w4.drewN (1 + k5 + k6 + k7)) := hS
            refine hKe _ _ hS ?_
            clear hKe Ke
            try simp only [Act.put, List.getElem_toArray, List.getElem_cons_succ, List.getElem_cons_zero, List.setIfInBounds_toArray, List.set_cons_succ, List.set_cons_zero]
            refine held_take 13 ?_ rfl (by kernel_rfl) (by kernel_rfl) (by kernel_rfl) (fun _ _ _ h => h) (Or.inl ⟨by kernel_rfl, ?_⟩) hS ?_
            rotate_left 1
            · intro u hu; unfold Sm at hu; go_simp; first | done | with_reducible rfl
            try simp only [Act.put, List.getElem_toArray, List.getElem_cons_succ, List.getElem_cons_zero, List.setIfInBounds_toArray, List.set_cons_succ, List.set_cons_zero]
            refine held_take 14 ?_ rfl (by kernel_rfl) (by kernel_rfl) (by kernel_rfl) (fun _ _ _ h => h) (Or.inl ⟨by kernel_rfl, ?_⟩) hS ?_
            rotate_left 1
            · intro u hu; unfold Sm at hu; go_simp; first | done | with_reducible rfl
            try simp only [Act.put, List.getElem_toArray, List.getElem_cons_succ, List.getElem_cons_zero, List.setIfInBounds_toArray, List.set_cons_succ, List.set_cons_zero]
            refine held_take 15 ?_ rfl (by kernel_rfl) (by kernel_rfl) (by kernel_rfl) (fun _ _ _ h => h) (Or.inl ⟨by kernel_rfl, ?_⟩) hS ?_
            rotate_left 1
            · intro u hu; unfold Sm at hu; go_simp; first | done | with_reducible rfl
            try simp only [Act.put, List.getElem_toArray, List.getElem_cons_succ, List.getElem_cons_zero, List.setIfInBounds_toArray, List.set_cons_succ, List.set_cons_zero]
            refine held_take 16 ?_ rfl (by kernel_rfl) (by kernel_rfl) (by kernel_rfl) (fun _ _ _ h => h) (Or.inl ⟨by kernel_rfl, ?_⟩) hS ?_
            rotate_left 1
            · intro u hu; unfold Sm at hu; go_simp; first | done | with_reducible rfl
            try simp only [Act.put, List.getElem_toArray, List.getElem_cons_succ, List.getElem_cons_zero, List.setIfInBounds_toArray, List.set_cons_succ, List.set_cons_zero]
            refine held_take 18 ?_ rfl (by kernel_rfl) (by kernel_rfl) (by kernel_rfl) (fun _ _ _ h => h) (Or.inl ⟨by kernel_rfl, ?_⟩) hS ?_
            rotate_left 1
            · intro u hu; unfold Sm at hu; go_simp; first | done | with_reducible rfl
            try simp only [Act.put, List.getElem_toArray, List.getElem_cons_succ, List.getElem_cons_zero, List.setIfInBounds_toArray, List.set_cons_succ, List.set_cons_zero]
            refine held_take 19 ?_ rfl (by kernel_rfl) (by kernel_rfl) (by kernel_rfl) (fun _ _ _ h => h) (Or.inl ⟨by kernel_rfl, ?_⟩) hS ?_
            rotate_left 1
            · intro u hu; unfold Sm at hu; go_simp; first | done | with_reducible rfl
            try simp only [Act.put, List.getElem_toArray, List.getElem_cons_succ, List.getElem_cons_zero, List.setIfInBounds_toArray, List.set_cons_succ, List.set_cons_zero]
            refine held_take 20 ?_ rfl (by kernel_rfl) (by kernel_rfl) (by kernel_rfl) (fun _ _ _ h => h) (Or.inl ⟨by kernel_rfl, ?_⟩) hS ?_
            rotate_left 1
            · intro u hu; unfold Sm at hu; go_simp; first | done | with_reducible rfl
            try simp only [Act.put, List.getElem_toArray, List.getElem_cons_succ, List.getElem_cons_zero, List.setIfInBounds_toArray, List.set_cons_succ, List.set_cons_zero]
            refine held_take 21 ?_ rfl (by kernel_rfl) (by kernel_rfl) (by kernel_rfl) (fun _ _ _ h => h) (Or.inl ⟨by kernel_rfl, ?_⟩) hS ?_
            rotate_left 1
            · intro u hu; unfold Sm at hu; go_simp; first | done | with_reducible rfl
            try simp only [Act.put, List.getElem_toArray, List.getElem_cons_succ, List.getElem_cons_zero, List.setIfInBounds_toArray, List.set_cons_succ, List.set_cons_zero]
            refine held_one 17 (by kernel_rfl) rfl (by kernel_rfl) (fun Kf hKf => ?_)
            go_simp
            refine (listq rowsSaid (q4.drewN _)).mono ?_
            rintro e w8 ⟨⟨v8, rfl, n8⟩, t8⟩
            have b8 := below_turn_n (below_drewN b4 _) t8 (Nat.le_refl _)
            have q8 := (q4.drewN _).turn t8 (fun h => h)
            have r8 := (r4.drewN _).turn t8 (fun _ h => h.elim)
            have s8 : SlI w8 (.slice pa' n' cap') LL := by
              rw [← HN.out]; exact (HV.out.turn (((Turn.refl Nn w4).drewN _).trans t8) (fun _ h => h.elim)).sl
            have hS : Sm ⟨rb, 0, none⟩ (.slice pa' n' cap') w8 := (World.cell?_of_block (w := w4) (a := ⟨rb, 0, none⟩) (t8.block rb (by have := r4.lt; simpa using this) (fun h => h))).trans hS
            refine hKf _ _ hS ?_
            clear hKf Kf
            try simp only [Act.put, List.getElem_toArray, List.getElem_cons_succ, List.getElem_cons_zero, List.setIfInBounds_toArray, List.set_cons_succ, List.set_cons_zero]
            refine held_one 22 (by kernel_rfl) rfl (by kernel_rfl) (fun Kg hKg => ?_)
            go_simp
            refine (words20_same n8.sl s8 (by rw [HN.out]; omega)).mono ?_
            rintro e w9 ⟨rfl, k9, rfl⟩
            have hS : Sm ⟨rb, 0, none⟩ (.slice pa' n' cap') (w8.drewN k9) := hS
            refine hKg _ _ hS ?_
            clear hKg Kg
            try simp only [Act.put, List.getElem_toArray, List.getElem_cons_succ, List.getElem_cons_zero, List.setIfInBounds_toArray, List.set_cons_succ, List.set_cons_zero]
            refine held_take 23 ?_ rfl (by kernel_rfl) (by kernel_rfl) (by kernel_rfl) (fun _ _ _ h => h) (Or.inl ⟨by kernel_rfl, ?_⟩) hS ?_
            rotate_left 1
            · intro u hu; unfold Sm at hu; go_simp; first | done | with_reducible rfl
            try simp only [Act.put, List.getElem_toArray, List.getElem_cons_succ, List.getElem_cons_zero, List.setIfInBounds_toArray, List.set_cons_succ, List.set_cons_zero]
            refine held_take 24 ?_ rfl (by kernel_rfl) (by kernel_rfl) (by kernel_rfl) (fun _ _ _ h => h) (Or.inl ⟨by kernel_rfl, ?_⟩) hS ?_
            rotate_left 1
            · intro u hu; unfold Sm at hu; go_simp; first | done | with_reducible rfl
            try simp only [Act.put, List.getElem_toArray, List.getElem_cons_succ, List.getElem_cons_zero, List.setIfInBounds_toArray, List.set_cons_succ, List.set_cons_zero]
            refine wpAnyH_done (by kernel_rfl) ?_ _
            clear hS
            go_wp2_with fail
            go_roundw
            case rel => exact ⟨k + 1, LL, by omega, by go_num, q8.drewN k9, r8.drewN k9, below_drewN b8 k9⟩
            case measure => simp [intOf]; omega
        | false =>
          cases L with
          | nil =>
            go_wp2_with fail
            refine (takeq_empty qr).mono ?_
            rintro e w3 ⟨rfl, q3, t3⟩
            have r3 : RefQ w3 rb [] m := rr.turn t3 (fun x hx => by have : x = q := hx; omega)
            have b3 := below_turn_q br t3 hqw (Nat.le_refl _)
            go_wp2_with fail
            refine (refTake_empty r3).mono ?_
            rintro e w4 ⟨rfl, rfl⟩
            obtain ⟨w4, rfl⟩ : ∃ w4 : World, w4 = w3 := ⟨_, rfl⟩
            have q4 := q3
            have r4 := r3
            have b4 := b3
            go_wp2_with fail
            obtain ⟨LL, hLL⟩ : ∃ LL, ([] : List Int) = LL := ⟨_, rfl⟩
            rw [hLL] at q4 r4
            clear hLL
            obtain ⟨hr1, hr2, v, hv1, hv2⟩ := id r4
            obtain ⟨pa', cap', rfl⟩ := hv2.shape
            obtain ⟨n', hn'⟩ : ∃ n', LL.length = n' := ⟨_, rfl⟩
            obtain ⟨bf, hbf⟩ : ∃ bf, ((LL.length : Int) == (m : Int)) = bf := ⟨_, rfl⟩
            have hbf2 : decide (m ≤ LL.length) = bf := by
              rw [← hbf]; by_cases hx : LL.length = m
              · rw [decide_eq_true (by omega), beq_iff_eq.2 (by omega)]
              · rw [decide_eq_false (by omega), beq_eq_false_iff_ne.2 (by omega)]
            have hc5 := cell_blk hv1 0
            simp only [List.getElem?_toArray, List.getElem?_cons_zero] at hc5
            rw [hn'] at hc5
            have HN := Lib.hid hn'
            have HB := Lib.hid hbf
            have HB2 := Lib.hid hbf2
            have HV := Lib.hid hv2
            have hS : Sm ⟨rb, 0, none⟩ (.slice pa' n' cap') (w4.drewN 1) := hc5
            have hle100 : n' ≤ 16 := by omega
            clear hn' hbf hbf2 hv1 hv2 hc5
            refine held_begin (Sm ⟨rb, 0, none⟩ (.slice pa' n' cap')) (by kernel_rfl) ?_
            refine held_take 0 ?_ rfl (by kernel_rfl) (by kernel_rfl) (by kernel_rfl) (fun _ _ _ h => h) (Or.inl ⟨by kernel_rfl, ?_⟩) hS ?_
            rotate_left 1
            · intro u hu; unfold Sm at hu; go_simp; first | done | with_reducible rfl
            try simp only [Act.put, List.getElem_toArray, List.getElem_cons_succ, List.getElem_cons_zero, List.setIfInBounds_toArray, List.set_cons_succ, List.set_cons_zero]
            refine held_take 2 ?_ rfl (by kernel_rfl) (by kernel_rfl) (by kernel_rfl) (fun _ _ _ h => h) (Or.inl ⟨by kernel_rfl, ?_⟩) hS ?_
            rotate_left 1
            · intro u hu; unfold Sm at hu; go_simp; first | done | with_reducible rfl
            try simp only [Act.put, List.getElem_toArray, List.getElem_cons_succ, List.getElem_cons_zero, List.setIfInBounds_toArray, List.set_cons_succ, List.set_cons_zero]
            refine held_take 3 ?_ rfl (by kernel_rfl) (by kernel_rfl) (by kernel_rfl) (fun _ _ _ h => h) (Or.inl ⟨by kernel_rfl, ?_⟩) hS ?_
            rotate_left 1
            · intro u hu; unfold Sm at hu; go_simp; first | done | with_reducible rfl
            try simp only [Act.put, List.getElem_toArray, List.getElem_cons_succ, List.getElem_cons_zero, List.setIfInBounds_toArray, List.set_cons_succ, List.set_cons_zero]
            refine held_take 4 ?_ rfl (by kernel_rfl) (by kernel_rfl) (by kernel_rfl) (fun _ _ _ h => h) (Or.inl ⟨by kernel_rfl, ?_⟩) hS ?_
            rotate_left 1
            · intro u hu; unfold Sm at hu; go_simp; first | done | with_reducible rfl
            try simp only [Act.put, List.getElem_toArray, List.getElem_cons_succ, List.getElem_cons_zero, List.setIfInBounds_toArray, List.set_cons_succ, List.set_cons_zero]
            refine held_take 5 ?_ rfl (by kernel_rfl) (by kernel_rfl) (by kernel_rfl) (fun _ _ _ h => h) (Or.inl ⟨by kernel_rfl, ?_⟩) hS ?_
            rotate_left 1
            · intro u hu; unfold Sm at hu; go_simp; first | done | with_reducible rfl
            try simp only [Act.put, List.getElem_toArray, List.getElem_cons_succ, List.getElem_cons_zero, List.setIfInBounds_toArray, List.set_cons_succ, List.set_cons_zero]
            refine held_take 6 ?_ rfl (by kernel_rfl) (by kernel_rfl) (by kernel_rfl) (fun _ _ _ h => h) (Or.inl ⟨by kernel_rfl, ?_⟩) hS ?_
            rotate_left 1
            · intro u hu; unfold Sm at hu; go_simp; first | done | with_reducible rfl
            try simp only [Act.put, List.getElem_toArray, List.getElem_cons_succ, List.getElem_cons_zero, List.setIfInBounds_toArray, List.set_cons_succ, List.set_cons_zero]
            refine held_one 1 (by kernel_rfl) rfl (by kernel_rfl) (fun Kc hKc => ?_)
            go_simp
            refine (lenqn (q4.drewN _) HN.out).mono ?_
            rintro e w5 ⟨rfl, k5, rfl⟩
            have hS : Sm ⟨rb, 0, none⟩ (.slice pa' n' cap') (w4.drewN (1 + k5)) := hS
            refine hKc _ _ hS ?_
            clear hKc Kc
            try simp only [Act.put, List.getElem_toArray, List.getElem_cons_succ, List.getElem_cons_zero, List.setIfInBounds_toArray, List.set_cons_succ, List.set_cons_zero]
            refine held_take 7 ?_ rfl (by kernel_rfl) (by kernel_rfl) (by kernel_rfl) (fun _ _ _ h => h) (Or.inl ⟨by kernel_rfl, ?_⟩) hS ?_
            rotate_left 1
            · intro u hu; unfold Sm at hu; go_simp; first | done | with_reducible rfl
            try simp only [Act.put, List.getElem_toArray, List.getElem_cons_succ, List.getElem_cons_zero, List.setIfInBounds_toArray, List.set_cons_succ, List.set_cons_zero]
            refine held_take 8 ?_ rfl (by kernel_rfl) (by kernel_rfl) (by kernel_rfl) (fun _ _ _ h => h) (Or.inl ⟨by kernel_rfl, ?_⟩) hS ?_
            rotate_left 1
            · intro u hu; unfold Sm at hu; go_simp; first | done | with_reducible rfl
            try simp only [Act.put, List.getElem_toArray, List.getElem_cons_succ, List.getElem_cons_zero, List.setIfInBounds_toArray, List.set_cons_succ, List.set_cons_zero]
            refine held_take 9 ?_ rfl (by kernel_rfl) (by kernel_rfl) (by kernel_rfl) (fun _ _ _ h => h) (Or.inl ⟨by kernel_rfl, ?_⟩) hS ?_
            rotate_left 1
            · intro u hu; unfold Sm at hu; go_simp; first | done | with_reducible rfl
            try simp only [Act.put, List.getElem_toArray, List.getElem_cons_succ, List.getElem_cons_zero, List.setIfInBounds_toArray, List.set_cons_succ, List.set_cons_zero]
            refine held_take 11 ?_ rfl (by kernel_rfl) (by kernel_rfl) (by kernel_rfl) (fun _ _ _ h => h) (Or.inl ⟨by kernel_rfl, ?_⟩) hS ?_
            rotate_left 1
            · intro u hu; unfold Sm at hu; go_simp; first | done | with_reducible rfl
            try simp only [Act.put, List.getElem_toArray, List.getElem_cons_succ, List.getElem_cons_zero, List.setIfInBounds_toArray, List.set_cons_succ, List.set_cons_zero]
            refine held_one 10 (by kernel_rfl) rfl (by kernel_rfl) (fun Kd hKd => ?_)
            go_simp
            refine (fullqb (q4.drewN _) HB.out).mono ?_
            rintro e w6 ⟨rfl, k6, rfl⟩
            have hS : Sm ⟨rb, 0, none⟩ (.slice pa' n' cap') (w4.drewN (1 + k5 + k6)) := hS
            refine hKd _ _ hS ?_
            clear hKd Kd
            try simp only [Act.put, List.getElem_toArray, List.getElem_cons_succ, List.getElem_cons_zero, List.setIfInBounds_toArray, List.set_cons_succ, List.set_cons_zero]
            refine held_one 12 (by kernel_rfl) rfl (by kernel_rfl) (fun Ke hKe => ?_)
            go_simp
            refine (refFullb (r4.drewN _) HB2.out).mono ?_
            rintro e w7 ⟨rfl, k7, rfl⟩
            have hS : Sm ⟨rb, 0, none⟩ (.slice pa' n' cap') (w4.drewN (1 + k5 + k6 + k7)) := hS
            refine hKe _ _ hS ?_
            clear hKe Ke
            try simp only [Act.put, List.getElem_toArray, List.getElem_cons_succ, List.getElem_cons_zero, List.setIfInBounds_toArray, List.set_cons_succ, List.set_cons_zero]
            refine held_take 13 ?_ rfl (by kernel_rfl) (by kernel_rfl) (by kernel_rfl) (fun _ _ _ h => h) (Or.inl ⟨by kernel_rfl, ?_⟩) hS ?_
            rotate_left 1
            · intro u hu; unfold Sm at hu; go_simp; first | done | with_reducible rfl
            try simp only [Act.put, List.getElem_toArray, List.getElem_cons_succ, List.getElem_cons_zero, List.setIfInBounds_toArray, List.set_cons_succ, List.set_cons_zero]
            refine held_take 14 ?_ rfl (by kernel_rfl) (by kernel_rfl) (by kernel_rfl) (fun _ _ _ h => h) (Or.inl ⟨by kernel_rfl, ?_⟩) hS ?_
            rotate_left 1
            · intro u hu; unfold Sm at hu; go_simp; first | done | with_reducible rfl
            try simp only [Act.put, List.getElem_toArray, List.getElem_cons_succ, List.getElem_cons_zero, List.setIfInBounds_toArray, List.set_cons_succ, List.set_cons_zero]
            refine held_take 15 ?_ rfl (by kernel_rfl) (by kernel_rfl) (by kernel_rfl) (fun _ _ _ h => h) (Or.inl ⟨by kernel_rfl, ?_⟩) hS ?_
            rotate_left 1
            · intro u hu; unfold Sm at hu; go_simp; first | done | with_reducible rfl
            try simp only [Act.put, List.getElem_toArray, List.getElem_cons_succ, List.getElem_cons_zero, List.setIfInBounds_toArray, List.set_cons_succ, List.set_cons_zero]
            refine held_take 16 ?_ rfl (by kernel_rfl) (by kernel_rfl) (by kernel_rfl) (fun _ _ _ h => h) (Or.inl ⟨by kernel_rfl, ?_⟩) hS ?_
            rotate_left 1
            · intro u hu; unfold Sm at hu; go_simp; first | done | with_reducible rfl
            try simp only [Act.put, List.getElem_toArray, List.getElem_cons_succ, List.getElem_cons_zero, List.setIfInBounds_toArray, List.set_cons_succ, List.set_cons_zero]
            refine held_take 18 ?_ rfl (by kernel_rfl) (by kernel_rfl) (by kernel_rfl) (fun _ _ _ h => h) (Or.inl ⟨by kernel_rfl, ?_⟩) hS ?_
            rotate_left 1
            · intro u hu; unfold Sm at hu; go_simp; first | done | with_reducible rfl
            try simp only [Act.put, List.getElem_toArray, List.getElem_cons_succ, List.getElem_cons_zero, List.setIfInBounds_toArray, List.set_cons_succ, List.set_cons_zero]
            refine held_take 19 ?_ rfl (by kernel_rfl) (by kernel_rfl) (by kernel_rfl) (fun _ _ _ h => h) (Or.inl ⟨by kernel_rfl, ?_⟩) hS ?_
            rotate_left 1
            · intro u hu; unfold Sm at hu; go_simp; first | done | with_reducible rfl
            try simp only [Act.put, List.getElem_toArray, List.getElem_cons_succ, List.getElem_cons_zero, List.setIfInBounds_toArray, List.set_cons_succ, List.set_cons_zero]
            refine held_take 20 ?_ rfl (by kernel_rfl) (by kernel_rfl) (by kernel_rfl) (fun _ _ _ h => h) (Or.inl ⟨by kernel_rfl, ?_⟩) hS ?_
            rotate_left 1
            · intro u hu; unfold Sm at hu; go_simp; first | done | with_reducible rfl
            try simp only [Act.put, List.getElem_toArray, List.getElem_cons_succ, List.getElem_cons_zero, List.setIfInBounds_toArray, List.set_cons_succ, List.set_cons_zero]
            refine held_take 21 ?_ rfl (by kernel_rfl) (by kernel_rfl) (by kernel_rfl) (fun _ _ _ h => h) (Or.inl ⟨by kernel_rfl, ?_⟩) hS ?_
            rotate_left 1
            · intro u hu; unfold Sm at hu; go_simp; first | done | with_reducible rfl
            try simp only [Act.put, List.getElem_toArray, List.getElem_cons_succ, List.getElem_cons_zero, List.setIfInBounds_toArray, List.set_cons_succ, List.set_cons_zero]
            refine held_one 17 (by kernel_rfl) rfl (by kernel_rfl) (fun Kf hKf => ?_)
            go_simp
            refine (listq rowsSaid (q4.drewN _)).mono ?_
            rintro e w8 ⟨⟨v8, rfl, n8⟩, t8⟩
            have b8 := below_turn_n (below_drewN b4 _) t8 (Nat.le_refl _)
            have q8 := (q4.drewN _).turn t8 (fun h => h)
            have r8 := (r4.drewN _).turn t8 (fun _ h => h.elim)
            have s8 : SlI w8 (.slice pa' n' cap') LL := by
              rw [← HN.out]; exact (HV.out.turn (((Turn.refl Nn w4).drewN _).trans t8) (fun _ h => h.elim)).sl
            have hS : Sm ⟨rb, 0, none⟩ (.slice pa' n' cap') w8 := (World.cell?_of_block (w := w4) (a := ⟨rb, 0, none⟩) (t8.block rb (by have := r4.lt; simpa using this) (fun h => h))).trans hS
            refine hKf _ _ hS ?_
            clear hKf Kf
            try simp only [Act.put, List.getElem_toArray, List.getElem_cons_succ, List.getElem_cons_zero, List.setIfInBounds_toArray, List.set_cons_succ, List.set_cons_zero]
            refine held_one 22 (by kernel_rfl) rfl (by kernel_rfl) (fun Kg hKg => ?_)
            go_simp
            refine (words20_same n8.sl s8 (by rw [HN.out]; omega)).mono ?_
            rintro e w9 ⟨rfl, k9, rfl⟩
            have hS : Sm ⟨rb, 0, none⟩ (.slice pa' n' cap') (w8.drewN k9) := hS
            refine hKg _ _ hS ?_
            clear hKg Kg
            try simp only [Act.put, List.getElem_toArray, List.getElem_cons_succ, List.getElem_cons_zero, List.setIfInBounds_toArray, List.set_cons_succ, List.set_cons_zero]
            refine held_take 23 ?_ rfl (by kernel_rfl) (by kernel_rfl) (by kernel_rfl) (fun _ _ _ h => h) (Or.inl ⟨by kernel_rfl, ?_⟩) hS ?_
            rotate_left 1
            · intro u hu; unfold Sm at hu; go_simp; first | done | with_reducible rfl
            try simp only [Act.put, List.getElem_toArray, List.getElem_cons_succ, List.getElem_cons_zero, List.setIfInBounds_toArray, List.set_cons_succ, List.set_cons_zero]
            refine held_take 24 ?_ rfl (by kernel_rfl) (by kernel_rfl) (by kernel_rfl) (fun _ _ _ h => h) (Or.inl ⟨by kernel_rfl, ?_⟩) hS ?_
            rotate_left 1
            · intro u hu; unfold Sm at hu; go_simp; first | done | with_reducible rfl
            try simp only [Act.put, List.getElem_toArray, List.getElem_cons_succ, List.getElem_cons_zero, List.setIfInBounds_toArray, List.set_cons_succ, List.set_cons_zero]
            refine wpAnyH_done (by kernel_rfl) ?_ _
            clear hS
            go_wp2_with fail
            go_roundw
            case rel => exact ⟨k + 1, LL, by omega, by go_num, q8.drewN k9, r8.drewN k9, below_drewN b8 k9⟩
            case measure => simp [intOf]; omega
          | cons x L' =>
            go_wp2_with fail
            refine (takeq_ok qr).mono ?_
            rintro e w3 ⟨rfl, q3, t3⟩
            have r3 : RefQ w3 rb (x :: L') m := rr.turn t3 (fun x hx => by have : x = q := hx; omega)
            have b3 := below_turn_q br t3 hqw (Nat.le_refl _)
            go_wp2_with fail
            refine (refTake_ok r3).mono ?_
            rintro e w4 ⟨rfl, r4, t4⟩
            have q4 : QIs w4 q L' m := q3.turn t4 (fun hx => by have : rb ≤ q := hx; omega)
            have b4 : Below w.heap.size w w4 := Turn.below b3 t4 (fun x hx => by have : rb ≤ x := hx; omega) b3.size
            go_wp2_with fail
            obtain ⟨LL, hLL⟩ : ∃ LL, L' = LL := ⟨_, rfl⟩
            rw [hLL] at q4 r4
            clear hLL
            obtain ⟨hr1, hr2, v, hv1, hv2⟩ := id r4
            obtain ⟨pa', cap', rfl⟩ := hv2.shape
            obtain ⟨n', hn'⟩ : ∃ n', LL.length = n' := ⟨_, rfl⟩
            obtain ⟨bf, hbf⟩ : ∃ bf, ((LL.length : Int) == (m : Int)) = bf := ⟨_, rfl⟩
            have hbf2 : decide (m ≤ LL.length) = bf := by
              rw [← hbf]; by_cases hx : LL.length = m
              · rw [decide_eq_true (by omega), beq_iff_eq.2 (by omega)]
              · rw [decide_eq_false (by omega), beq_eq_false_iff_ne.2 (by omega)]
            have hc5 := cell_blk hv1 0
            simp only [List.getElem?_toArray, List.getElem?_cons_zero] at hc5
            rw [hn'] at hc5
            have HN := Lib.hid hn'
            have HB := Lib.hid hbf
            have HB2 := Lib.hid hbf2
            have HV := Lib.hid hv2
            have hS : Sm ⟨rb, 0, none⟩ (.slice pa' n' cap') (w4.drewN 1) := hc5
            have hle100 : n' ≤ 16 := by omega
            clear hn' hbf hbf2 hv1 hv2 hc5
            refine held_begin (Sm ⟨rb, 0, none⟩ (.slice pa' n' cap')) (by kernel_rfl) ?_
            refine held_take 0 ?_ rfl (by kernel_rfl) (by kernel_rfl) (by kernel_rfl) (fun _ _ _ h => h) (Or.inl ⟨by kernel_rfl, ?_⟩) hS ?_
            rotate_left 1
            · intro u hu; unfold Sm at hu; go_simp; first | done | with_reducible rfl
            try simp only [Act.put, List.getElem_toArray, List.getElem_cons_succ, List.getElem_cons_zero, List.setIfInBounds_toArray, List.set_cons_succ, List.set_cons_zero]
            refine held_take 2 ?_ rfl (by kernel_rfl) (by kernel_rfl) (by kernel_rfl) (fun _ _ _ h => h) (Or.inl ⟨by kernel_rfl, ?_⟩) hS ?_
            rotate_left 1
            · intro u hu; unfold Sm at hu; go_simp; first | done | with_reducible rfl
            try simp only [Act.put, List.getElem_toArray, List.getElem_cons_succ, List.getElem_cons_zero, List.setIfInBounds_toArray, List.set_cons_succ, List.set_cons_zero]
            refine held_take 3 ?_ rfl (by kernel_rfl) (by kernel_rfl) (by kernel_rfl) (fun _ _ _ h => h) (Or.inl ⟨by kernel_rfl, ?_⟩) hS ?_
            rotate_left 1
            · intro u hu; unfold Sm at hu; go_simp; first | done | with_reducible rfl
            try simp only [Act.put, List.getElem_toArray, List.getElem_cons_succ, List.getElem_cons_zero, List.setIfInBounds_toArray, List.set_cons_succ, List.set_cons_zero]
            refine held_take 4 ?_ rfl (by kernel_rfl) (by kernel_rfl) (by kernel_rfl) (fun _ _ _ h => h) (Or.inl ⟨by kernel_rfl, ?_⟩) hS ?_
            rotate_left 1
            · intro u hu; unfold Sm at hu; go_simp; first | done | with_reducible rfl
            try simp only [Act.put, List.getElem_toArray, List.getElem_cons_succ, List.getElem_cons_zero, List.setIfInBounds_toArray, List.set_cons_succ, List.set_cons_zero]
            refine held_take 5 ?_ rfl (by kernel_rfl) (by kernel_rfl) (by kernel_rfl) (fun _ _ _ h => h) (Or.inl ⟨by kernel_rfl, ?_⟩) hS ?_
            rotate_left 1
            · intro u hu; unfold Sm at hu; go_simp; first | done | with_reducible rfl
            try simp only [Act.put, List.getElem_toArray, List.getElem_cons_succ, List.getElem_cons_zero, List.setIfInBounds_toArray, List.set_cons_succ, List.set_cons_zero]
            refine held_take 6 ?_ rfl (by kernel_rfl) (by kernel_rfl) (by kernel_rfl) (fun _ _ _ h => h) (Or.inl ⟨by kernel_rfl, ?_⟩) hS ?_
            rotate_left 1
            · intro u hu; unfold Sm at hu; go_simp; first | done | with_reducible rfl
            try simp only [Act.put, List.getElem_toArray, List.getElem_cons_succ, List.getElem_cons_zero, List.setIfInBounds_toArray, List.set_cons_succ, List.set_cons_zero]
            refine held_one 1 (by kernel_rfl) rfl (by kernel_rfl) (fun Kc hKc => ?_)
            go_simp
            refine (lenqn (q4.drewN _) HN.out).mono ?_
            rintro e w5 ⟨rfl, k5, rfl⟩
            have hS : Sm ⟨rb, 0, none⟩ (.slice pa' n' cap') (w4.drewN (1 + k5)) := hS
            refine hKc _ _ hS ?_
            clear hKc Kc
            try simp only [Act.put, List.getElem_toArray, List.getElem_cons_succ, List.getElem_cons_zero, List.setIfInBounds_toArray, List.set_cons_succ, List.set_cons_zero]
            refine held_take 7 ?_ rfl (by kernel_rfl) (by kernel_rfl) (by kernel_rfl) (fun _ _ _ h => h) (Or.inl ⟨by kernel_rfl, ?_⟩) hS ?_
            rotate_left 1
            · intro u hu; unfold Sm at hu; go_simp; first | done | with_reducible rfl
            try simp only [Act.put, List.getElem_toArray, List.getElem_cons_succ, List.getElem_cons_zero, List.setIfInBounds_toArray, List.set_cons_succ, List.set_cons_zero]
            refine held_take 8 ?_ rfl (by kernel_rfl) (by kernel_rfl) (by kernel_rfl) (fun _ _ _ h => h) (Or.inl ⟨by kernel_rfl, ?_⟩) hS ?_
            rotate_left 1
            · intro u hu; unfold Sm at hu; go_simp; first | done | with_reducible rfl
            try simp only [Act.put, List.getElem_toArray, List.getElem_cons_succ, List.getElem_cons_zero, List.setIfInBounds_toArray, List.set_cons_succ, List.set_cons_zero]
            refine held_take 9 ?_ rfl (by kernel_rfl) (by kernel_rfl) (by kernel_rfl) (fun _ _ _ h => h) (Or.inl ⟨by kernel_rfl, ?_⟩) hS ?_
            rotate_left 1
            · intro u hu; unfold Sm at hu; go_simp; first | done | with_reducible rfl
            try simp only [Act.put, List.getElem_toArray, List.getElem_cons_succ, List.getElem_cons_zero, List.setIfInBounds_toArray, List.set_cons_succ, List.set_cons_zero]
            refine held_take 11 ?_ rfl (by kernel_rfl) (by kernel_rfl) (by kernel_rfl) (fun _ _ _ h => h) (Or.inl ⟨by kernel_rfl, ?_⟩) hS ?_
            rotate_left 1
            · intro u hu; unfold Sm at hu; go_simp; first | done | with_reducible rfl
            try simp only [Act.put, List.getElem_toArray, List.getElem_cons_succ, List.getElem_cons_zero, List.setIfInBounds_toArray, List.set_cons_succ, List.set_cons_zero]
            refine held_one 10 (by kernel_rfl) rfl (by kernel_rfl) (fun Kd hKd => ?_)
            go_simp
            refine (fullqb (q4.drewN _) HB.out).mono ?_
            rintro e w6 ⟨rfl, k6, rfl⟩
            have hS : Sm ⟨rb, 0, none⟩ (.slice pa' n' cap') (w4.drewN (1 + k5 + k6)) := hS
            refine hKd _ _ hS ?_
            clear hKd Kd
            try simp only [Act.put, List.getElem_toArray, List.getElem_cons_succ, List.getElem_cons_zero, List.setIfInBounds_toArray, List.set_cons_succ, List.set_cons_zero]
            refine held_one 12 (by kernel_rfl) rfl (by kernel_rfl) (fun Ke hKe => ?_)
            go_simp
            refine (refFullb (r4.drewN _) HB2.out).mono ?_
            rintro e w7 ⟨rfl, k7, rfl⟩
            have hS : Sm ⟨rb, 0, none⟩ (.slice pa' n' cap') (w4.drewN (1 + k5 + k6 + k7)) := hS
            refine hKe _ _ hS ?_
            clear hKe Ke
            try simp only [Act.put, List.getElem_toArray, List.getElem_cons_succ, List.getElem_cons_zero, List.setIfInBounds_toArray, List.set_cons_succ, List.set_cons_zero]
            refine held_take 13 ?_ rfl (by kernel_rfl) (by kernel_rfl) (by kernel_rfl) (fun _ _ _ h => h) (Or.inl ⟨by kernel_rfl, ?_⟩) hS ?_
            rotate_left 1
            · intro u hu; unfold Sm at hu; go_simp; first | done | with_reducible rfl
            try simp only [Act.put, List.getElem_toArray, List.getElem_cons_succ, List.getElem_cons_zero, List.setIfInBounds_toArray, List.set_cons_succ, List.set_cons_zero]
            refine held_take 14 ?_ rfl (by kernel_rfl) (by kernel_rfl) (by kernel_rfl) (fun _ _ _ h => h) (Or.inl ⟨by kernel_rfl, ?_⟩) hS ?_
            rotate_left 1
            · intro u hu; unfold Sm at hu; go_simp; first | done | with_reducible rfl
            try simp only [Act.put, List.getElem_toArray, List.getElem_cons_succ, List.getElem_cons_zero, List.setIfInBounds_toArray, List.set_cons_succ, List.set_cons_zero]
            refine held_take 15 ?_ rfl (by kernel_rfl) (by kernel_rfl) (by kernel_rfl) (fun _ _ _ h => h) (Or.inl ⟨by kernel_rfl, ?_⟩) hS ?_
            rotate_left 1
            · intro u hu; unfold Sm at hu; go_simp; first | done | with_reducible rfl
            try simp only [Act.put, List.getElem_toArray, List.getElem_cons_succ, List.getElem_cons_zero, List.setIfInBounds_toArray, List.set_cons_succ, List.set_cons_zero]
            refine held_take 16 ?_ rfl (by kernel_rfl) (by kernel_rfl) (by kernel_rfl) (fun _ _ _ h => h) (Or.inl ⟨by kernel_rfl, ?_⟩) hS ?_
            rotate_left 1
            · intro u hu; unfold Sm at hu; go_simp; first | done | with_reducible rfl
            try simp only [Act.put, List.getElem_toArray, List.getElem_cons_succ, List.getElem_cons_zero, List.setIfInBounds_toArray, List.set_cons_succ, List.set_cons_zero]
            refine held_take 18 ?_ rfl (by kernel_rfl) (by kernel_rfl) (by kernel_rfl) (fun _ _ _ h => h) (Or.inl ⟨by kernel_rfl, ?_⟩) hS ?_
            rotate_left 1
            · intro u hu; unfold Sm at hu; go_simp; first | done | with_reducible rfl
            try simp only [Act.put, List.getElem_toArray, List.getElem_cons_succ, List.getElem_cons_zero, List.setIfInBounds_toArray, List.set_cons_succ, List.set_cons_zero]
            refine held_take 19 ?_ rfl (by kernel_rfl) (by kernel_rfl) (by kernel_rfl) (fun _ _ _ h => h) (Or.inl ⟨by kernel_rfl, ?_⟩) hS ?_
            rotate_left 1
            · intro u hu; unfold Sm at hu; go_simp; first | done | with_reducible rfl
            try simp only [Act.put, List.getElem_toArray, List.getElem_cons_succ, List.getElem_cons_zero, List.setIfInBounds_toArray, List.set_cons_succ, List.set_cons_zero]
            refine held_take 20 ?_ rfl (by kernel_rfl) (by kernel_rfl) (by kernel_rfl) (fun _ _ _ h => h) (Or.inl ⟨by kernel_rfl, ?_⟩) hS ?_
            rotate_left 1
            · intro u hu; unfold Sm at hu; go_simp; first | done | with_reducible rfl
            try simp only [Act.put, List.getElem_toArray, List.getElem_cons_succ, List.getElem_cons_zero, List.setIfInBounds_toArray, List.set_cons_succ, List.set_cons_zero]
            refine held_take 21 ?_ rfl (by kernel_rfl) (by kernel_rfl) (by kernel_rfl) (fun _ _ _ h => h) (Or.inl ⟨by kernel_rfl, ?_⟩) hS ?_
            rotate_left 1
            · intro u hu; unfold Sm at hu; go_simp; first | done | with_reducible rfl
            try simp only [Act.put, List.getElem_toArray, List.getElem_cons_succ, List.getElem_cons_zero, List.setIfInBounds_toArray, List.set_cons_succ, List.set_cons_zero]
            refine held_one 17 (by kernel_rfl) rfl (by kernel_rfl) (fun Kf hKf => ?_)
            go_simp
            refine (listq rowsSaid (q4.drewN _)).mono ?_
            rintro e w8 ⟨⟨v8, rfl, n8⟩, t8⟩
            have b8 := below_turn_n (below_drewN b4 _) t8 (Nat.le_refl _)
            have q8 := (q4.drewN _).turn t8 (fun h => h)
            have r8 := (r4.drewN _).turn t8 (fun _ h => h.elim)
            have s8 : SlI w8 (.slice pa' n' cap') LL := by
              rw [← HN.out]; exact (HV.out.turn (((Turn.refl Nn w4).drewN _).trans t8) (fun _ h => h.elim)).sl
            have hS : Sm ⟨rb, 0, none⟩ (.slice pa' n' cap') w8 := (World.cell?_of_block (w := w4) (a := ⟨rb, 0, none⟩) (t8.block rb (by have := r4.lt; simpa using this) (fun h => h))).trans hS
            refine hKf _ _ hS ?_
            clear hKf Kf
            try simp only [Act.put, List.getElem_toArray, List.getElem_cons_succ, List.getElem_cons_zero, List.setIfInBounds_toArray, List.set_cons_succ, List.set_cons_zero]
            refine held_one 22 (by kernel_rfl) rfl (by kernel_rfl) (fun Kg hKg => ?_)
            go_simp
            refine (words20_same n8.sl s8 (by rw [HN.out]; omega)).mono ?_
            rintro e w9 ⟨rfl, k9, rfl⟩
            have hS : Sm ⟨rb, 0, none⟩ (.slice pa' n' cap') (w8.drewN k9) := hS
            refine hKg _ _ hS ?_
            clear hKg Kg
            try simp only [Act.put, List.getElem_toArray, List.getElem_cons_succ, List.getElem_cons_zero, List.setIfInBounds_toArray, List.set_cons_succ, List.set_cons_zero]
            refine held_take 23 ?_ rfl (by kernel_rfl) (by kernel_rfl) (by kernel_rfl) (fun _ _ _ h => h) (Or.inl ⟨by kernel_rfl, ?_⟩) hS ?_
            rotate_left 1
            · intro u hu; unfold Sm at hu; go_simp; first | done | with_reducible rfl
            try simp only [Act.put, List.getElem_toArray, List.getElem_cons_succ, List.getElem_cons_zero, List.setIfInBounds_toArray, List.set_cons_succ, List.set_cons_zero]
            refine held_take 24 ?_ rfl (by kernel_rfl) (by kernel_rfl) (by kernel_rfl) (fun _ _ _ h => h) (Or.inl ⟨by kernel_rfl, ?_⟩) hS ?_
            rotate_left 1
            · intro u hu; unfold Sm at hu; go_simp; first | done | with_reducible rfl
            try simp only [Act.put, List.getElem_toArray, List.getElem_cons_succ, List.getElem_cons_zero, List.setIfInBounds_toArray, List.set_cons_succ, List.set_cons_zero]
            refine wpAnyH_done (by kernel_rfl) ?_ _
            clear hS
            go_wp2_with fail
            go_roundw
            case rel => exact ⟨k + 1, LL, by omega, by go_num, q8.drewN k9, r8.drewN k9, below_drewN b8 k9⟩
            case measure => simp [intOf]; omega
      · have h60' : ¬ (k : Int) < 100 := by omega
        go_wp2_with fail
        refine (works20 rowsSaid wr).mono ?_
        rintro e w1 ⟨rfl, b1⟩
        go_wp2_with fail
        go_ret
        exact ⟨rfl, br.trans (b1.mono br.size)⟩
    · have hlt' : ¬ (k : Int) < (nl : Int) := by omega
      go_wp2_with fail
      refine (works20 rowsSaid wr).mono ?_
      rintro e w1 ⟨rfl, b1⟩
      go_wp2_with fail
      go_ret
      exact ⟨rfl, br.trans (b1.mono br.size)⟩
end Go.Proofs.Ytjnekmdocbmofaa
