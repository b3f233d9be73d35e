/- Words come out as they came in: the law's walk. -/
import Derived.Test.YtjnekmdocbmofaaQl
import Derived.Test.YtjnekmdocbmofaaHe
namespace Go.Proofs.Ytjnekmdocbmofaa
set_option linter.unusedSimpArgs false
set_option linter.unusedVariables false
open Go.RowKit Go.Shelf

theorem run_min_200 (n : Nat) (w : World) : (Builtin.min_ #[3, 3] 3 #[.int .i64 (n : Int), .int .i64 200]).run Try.prog w = .ok (.int .i64 ((min n 200 : Nat) : Int)) w := by
  rw [run_min_int2]
  congr 2
  split <;> omega

theorem run_sliceBoth35 (pa : Option Addr) (n cap a b : Nat) (h1 : a ≤ b) (h2 : b ≤ cap) {w0 : World} {L : List Int} (hs : SlI w0 (.slice pa n cap) L) (hb : b ≤ n) :
    ∃ p', (∀ w, (Instr.sliceAt 35 (.slice pa n cap) (some (.int .i64 (a : Int))) (some (.int .i64 (b : Int))) none).run Try.prog w = .ok (.slice p' (b - a) (cap - a)) w) ∧ SlI w0 (.slice p' (b - a) (cap - a)) ((L.take b).drop a) := by
  have h8 := info2
  cases hq : Try.prog.info? 2 with
  | none => simp [hq] at h8
  | some i =>
    have hi' : i.size = 1 := by simpa [hq] using h8
    refine ⟨if cap = a then pa else pa.map (fun x => x.add a), fun w => ?_, ?_⟩
    · have e2 : (b : Int) ≤ cap := by omega
      simp [Instr.sliceAt, Instr.slice, run_underlying under35, go_sem, sizeOf, typeInfo, hq, hi', e2, h1]
    · obtain ⟨_, _, e, hlc⟩ := hs.shape
      by_cases hz : a = b
      · subst hz
        refine .inl ⟨?_, _, _, by rw [Nat.sub_self]⟩
        apply List.eq_nil_of_length_eq_zero
        simp
      · obtain ⟨bb, o, rfl, _⟩ := hs.at (show a < n by omega)
        have hn : L.length = n := by cases e; rfl
        rw [if_neg (by omega)]
        refine .inr ⟨bb, o + a, cap - a, ?_, ?_, fun i hi => ?_⟩
        · have h9 : (⟨bb, o, none⟩ : Addr).add a = ⟨bb, o + a, none⟩ := by unfold Addr.add; split <;> simp_all
          have h10 : ((L.take b).drop a).length = b - a := by rw [List.length_drop, List.length_take]; omega
          rw [h10, Option.map_some, h9]
        · simp; omega
        · have hi2 : a + i < b := by simp at hi; omega
          obtain ⟨b2, o2, e2, hc⟩ := hs.at (show a + i < n by omega)
          cases e2
          rw [Nat.add_assoc, hc, List.getElem?_drop, List.getElem?_take_of_lt hi2]

theorem lenq' {w b L m} {z : Int} (h : QIs w b L m) (hz : (L.length : Int) = z) :
    Calls Try.prog 18 #[.pointer (some ⟨b, 0, none⟩)] w fun e w' => e = .returned (.int .i64 z) ∧ ∃ k, w' = w.drewN k := by
  rw [← hz]; exact lenq h
theorem fullq' {w b L m} {z : Int} (h : QIs w b L m) (hz : (L.length : Int) = z) :
    Calls Try.prog 19 #[.pointer (some ⟨b, 0, none⟩)] w fun e w' => e = .returned (.bool (z == (m : Int))) ∧ ∃ k, w' = w.drewN k := by
  rw [← hz]; exact fullq h

/-- A slice of pairs of bytes. -/
def PairI (w : World) (v : Value) (n : Nat) : Prop := ∃ pa cap, v = .slice pa n cap ∧ ∀ i, i < n → ∃ (b o : Nat) (y z : Int), pa = some ⟨b, o, none⟩ ∧ w.cell? ⟨b, o + i * 2, none⟩ = some (.int .u8 y) ∧ w.cell? ⟨b, o + i * 2 + 1, none⟩ = some (.int .u8 z) ∧ 0 ≤ y ∧ y ≤ 255 ∧ 0 ≤ z ∧ z ≤ 255

set_option maxRecDepth 100000 in
set_option maxHeartbeats 8000000 in
theorem line20 (w : World) (mo : Int) (va vr : Value) (L : List Int) (nr : Nat) (hmo : 0 ≤ mo) (hmo2 : mo ≤ 255) (ha : SlI w va L) (hr : PairI w vr nr) :
    Calls Try.prog 4 #[.int .u8 mo, va, vr] w fun e w' => e = .returned (.bool true) ∧ Below w.heap.size w w' := by
  obtain ⟨pa, cap, rfl, hcap⟩ := ha.shape
  obtain ⟨pr, cr, rfl, hr⟩ := hr
  obtain ⟨n, hn⟩ : ∃ n, L.length = n := ⟨_, rfl⟩
  rw [hn] at ha hcap ⊢
  obtain ⟨K, hK⟩ : ∃ K, min n 200 = K := ⟨_, rfl⟩
  have hK16 : K ≤ 200 := by omega
  have hKn : K ≤ n := by omega
  have hmn := run_min_200 n
  rw [hK] at hmn
  have hsl := run_sliceTo35 pa n cap K (by omega)
  obtain ⟨M, hM⟩ : ∃ M, L.take K = M := ⟨_, rfl⟩
  have hMl : M.length = K := by rw [← hM, List.length_take]; omega
  have hs := ha.take (k := K) (by omega)
  rw [hM] at hs
  have HML := Lib.hid hMl
  have HR := Lib.hid hr
  clear hMl hM hK hn ha hr
  obtain ⟨rm, hrm⟩ : ∃ rm : Nat, (rm : Int) = 1 + mo % 16 := ⟨(1 + mo % 16).toNat, by omega⟩
  have hrm1 : 1 ≤ rm := by omega
  have hrm2 : rm ≤ 16 := by omega
  have HRM := Lib.hid hrm
  clear hrm
  go_enter Try.func4, Try.ntmps4
  go_wp2_with fail
  refine (works20 rowsSaid w).mono ?_
  rintro e w1 ⟨rfl, b1⟩
  go_wp2_with fail
  rw [← HRM.out]
  refine (new_ok rm w1 (by omega) (by omega)).mono ?_
  rintro e w2 ⟨rfl, hw2⟩
  obtain ⟨q, hq⟩ : ∃ q, w1.heap.size = q := ⟨_, rfl⟩
  have hqw : w.heap.size ≤ q := by rw [← hq]; exact b1.size
  have q2 : QIs w2 q [] rm := by rw [hw2, ← hq]; exact QIs.new (by omega) (by omega)
  have b2 : Below w.heap.size w w2 := by rw [hw2]; exact b1.alloc b1.size _
  rw [hq]
  clear hw2 hq b1
  go_wp2_with fail
  go_loopw [9, 10, 11] (fun x y z wr => ∃ came went r : Nat, went ≤ came ∧ came ≤ K ∧ r ≤ 60 ∧ x = .int .i64 came ∧ y = .int .i64 went ∧ z = .int .i64 r ∧ QIs wr q ((M.take came).drop went) rm ∧ Below w.heap.size w wr) (fun _ _ z _ => 60 - (intOf z).toNat)
  case atStart => exact ⟨0, 0, 0, Nat.le_refl _, Nat.zero_le _, by omega, rfl, rfl, rfl, by simpa using q2, b2⟩
  case round =>
    obtain ⟨came, went, r, h1, h2, h3, rfl, rfl, rfl, qr, br⟩ := hrel
    by_cases hlt : r < nr
    · have hlt' : (r : Int) < (nr : Int) := by omega
      by_cases h60 : r < 60
      · have h60' : (r : Int) < 60 := by omega
        go_wp2_with fail
        obtain ⟨wo, rfl⟩ : ∃ wo : World, wo = wr := ⟨_, rfl⟩
        go_loopw [9, 12] (fun x y wr => ∃ c i : Nat, went ≤ c ∧ c ≤ K ∧ i ≤ 20 ∧ x = .int .i64 c ∧ y = .int .i64 i ∧ QIs wr q ((M.take c).drop went) rm ∧ Below w.heap.size w wr) (fun _ y _ => 20 - (intOf y).toNat)
        case atStart => exact ⟨came, 0, h1, h2, by omega, rfl, rfl, qr, br⟩
        case round =>
          obtain ⟨c, i, g1, g2, g3, rfl, rfl, q3, b3⟩ := hrel
          obtain ⟨b, o, y0, z0, rfl, hc0, hc1, f1, f2, f3, f4⟩ := HR.out r hlt
          have hy := (b3.cell (p := ⟨b, o + r * 2, none⟩) (World.block_lt_of_cell? _ _ hc0)).trans hc0
          have hcl : ((M.take c).drop went).length = c - went := by rw [List.length_drop, List.length_take, HML.out]; omega
          have HCL := Lib.hid hcl
          clear hcl
          by_cases hAB : (i : Int) < y0 % 21 ∧ c < K
          · obtain ⟨hA, hB⟩ := hAB
            have hB' : (c : Int) < (K : Int) := by omega
            obtain ⟨b', o', rfl, hc⟩ := (hs.below b3 (Nat.le_refl _)).at hB
            obtain ⟨x, hx⟩ : ∃ x, M[c]?.getD 0 = x := ⟨_, rfl⟩
            rw [hx] at hc
            have HX := Lib.hid hx
            clear hx
            by_cases hF : c - went < rm
            · have hd : decide ((c : Int) - (went : Int) < (rm : Int)) = true := by simp; omega
              go_wp2_with fail
              refine (putq_ok q3 x (by rw [HCL.out]; exact hF)).mono ?_
              rintro e w4 ⟨rfl, q4, t4⟩
              have b4 := below_turn_q b3 t4 hqw (Nat.le_refl _)
              go_wp2_with fail
              go_roundw
              case rel =>
                refine ⟨c + 1, i + 1, by omega, by omega, by omega, by go_num, by go_num, ?_, b4⟩
                rw [← take_snoc_get M c (by rw [HML.out]; exact hB), HX.out, List.drop_append_of_le_length (by rw [List.length_take, HML.out]; omega)]
                exact q4
              case measure => simp [intOf]; omega
            · have hd : decide ((c : Int) - (went : Int) < (rm : Int)) = false := by simp; omega
              have hle := q3.le
              rw [HCL.out] at hle
              go_wp2_with fail
              refine (putq_full q3 x (by rw [HCL.out]; omega)).mono ?_
              rintro e w4 ⟨rfl, q4, t4⟩
              have b4 := below_turn_q b3 t4 hqw (Nat.le_refl _)
              go_wp2_with fail
              go_roundw
              case rel => exact ⟨c, i + 1, g1, g2, by omega, rfl, by go_num, q4, b4⟩
              case measure => simp [intOf]; omega
          · have hA : ¬ (i : Int) < y0 % 21 ∨ ((i : Int) < y0 % 21 ∧ ¬ (c : Int) < (K : Int)) := by omega
            have C0 := Lib.hid hc0
            have C1 := Lib.hid hc1
            clear hc0 hc1 hAB qr br
            rcases hA with hA | ⟨hA, hB'⟩
            all_goals
              go_wp2_with fail
              obtain ⟨wi, rfl⟩ : ∃ wi : World, wi = wr := ⟨_, rfl⟩
              clear hy hA
              go_loopw [10, 14] (fun x y wr => ∃ t i : Nat, t ≤ c ∧ i ≤ 20 ∧ x = .int .i64 t ∧ y = .int .i64 i ∧ QIs wr q ((M.take c).drop t) rm ∧ Below w.heap.size w wr) (fun _ y _ => 20 - (intOf y).toNat)
              case atStart => exact ⟨went, 0, g1, by omega, rfl, rfl, q3, b3⟩
              case round =>
                obtain ⟨t, j, l1, l2, rfl, rfl, q5, b5⟩ := hrel
                have hz := (b5.cell (p := ⟨b, o + r * 2 + 1, none⟩) (World.block_lt_of_cell? _ _ C1.out)).trans C1.out
                by_cases hA : (j : Int) < z0 % 21
                · by_cases hE : c = t
                  · subst hE
                    rw [List.drop_of_length_le (by rw [List.length_take]; omega)] at q5
                    go_wp2_with fail
                    refine (takeq_empty q5).mono ?_
                    rintro e w6 ⟨rfl, q6, t6⟩
                    have b6 := below_turn_q b5 t6 hqw (Nat.le_refl _)
                    go_wp2_with fail
                    go_roundw
                    case rel => exact ⟨c, j + 1, l1, by omega, rfl, by go_num, by rw [List.drop_of_length_le (by rw [List.length_take]; omega)]; exact q6, b6⟩
                    case measure => simp [intOf]; omega
                  · have hE' : ((c : Int) == t) = false := by rw [beq_eq_false_iff_ne]; omega
                    have htc : t < c := by omega
                    rw [drop_cons_get (M.take c) t (by rw [List.length_take, HML.out]; omega), List.getElem?_take_of_lt htc] at q5
                    obtain ⟨x, hx⟩ : ∃ x, M[t]?.getD 0 = x := ⟨_, rfl⟩
                    rw [hx] at q5
                    have HX := Lib.hid hx
                    clear hx
                    have htK : t < K := by omega
                    have htK' : (t : Int) < (K : Int) := by omega
                    go_wp2_with fail
                    refine (takeq_ok q5).mono ?_
                    rintro e w6 ⟨rfl, q6, t6⟩
                    have b6 := below_turn_q b5 t6 hqw (Nat.le_refl _)
                    obtain ⟨b', o', rfl, hc⟩ := (hs.below b6 (Nat.le_refl _)).at htK
                    rw [HX.out] at hc
                    go_wp2_with fail
                    go_roundw
                    case rel => exact ⟨t + 1, j + 1, by omega, by omega, by go_num, by go_num, q6, b6⟩
                    case measure => simp [intOf]; omega
                · go_wp2_with fail
                  have hql : ((M.take c).drop t).length = c - t := by rw [List.length_drop, List.length_take, HML.out]; omega
                  obtain ⟨p', hsb, hss⟩ := run_sliceBoth35 pa K cap t c l1 (by omega) (hs.below b5 (Nat.le_refl _)) g2
                  have hle := q5.le
                  rw [hql] at hle
                  obtain ⟨Z, hZ⟩ : ∃ Z, (M.take c).drop t = Z := ⟨_, rfl⟩
                  rw [hZ] at q5 hss hql
                  have HZ := Lib.hid hZ
                  have HQL := Lib.hid hql
                  clear hZ hql
                  have hcast : ((Z.length : Nat) : Int) = (c : Int) - t := by rw [HQL.out]; omega
                  have HC := Lib.hid hcast
                  clear hcast
                  -- REGION
                  have hwr : IntKind.i64.wrap ((c : Int) - (t : Int)) = (c : Int) - (t : Int) := by rw [IntKind.wrap_i64]; omega
                  refine held_begin (fun _ => True) (by kernel_rfl) ?_
                  refine held_take 0 ?_ rfl (by kernel_rfl) (by kernel_rfl) (by kernel_rfl) (fun _ _ _ h => h) (Or.inl ⟨by kernel_rfl, ?_⟩) trivial ?_
                  rotate_left 1
                  · intro u _; go_simp; first | done | with_reducible rfl
                  try simp only [Act.put, List.setIfInBounds_toArray, List.set_cons_succ, List.set_cons_zero]
                  refine held_take 2 ?_ rfl (by kernel_rfl) (by kernel_rfl) (by kernel_rfl) (fun _ _ _ h => h) (Or.inl ⟨by kernel_rfl, ?_⟩) trivial ?_
                  rotate_left 1
                  · intro u _; go_simp; first | done | with_reducible rfl
                  try simp only [Act.put, List.setIfInBounds_toArray, List.set_cons_succ, List.set_cons_zero]
                  refine held_take 3 ?_ rfl (by kernel_rfl) (by kernel_rfl) (by kernel_rfl) (fun _ _ _ h => h) (Or.inl ⟨by kernel_rfl, ?_⟩) trivial ?_
                  rotate_left 1
                  · intro u _; go_simp; first | done | with_reducible rfl
                  try simp only [Act.put, List.setIfInBounds_toArray, List.set_cons_succ, List.set_cons_zero]
                  refine held_take 4 ?_ rfl (by kernel_rfl) (by kernel_rfl) (by kernel_rfl) (fun _ _ _ h => h) (Or.inl ⟨by kernel_rfl, ?_⟩) trivial ?_
                  rotate_left 1
                  · intro u _; go_simp; first | done | with_reducible rfl
                  try simp only [Act.put, List.setIfInBounds_toArray, List.set_cons_succ, List.set_cons_zero]
                  refine held_one 1 (by kernel_rfl) rfl (by kernel_rfl) (fun Ka hKa => ?_)
                  go_simp
                  refine (lenq' (q5.drewN _) HC.out).mono ?_
                  rintro e w6 ⟨rfl, k6, rfl⟩
                  refine hKa _ _ trivial ?_
                  try simp only [Act.put, List.setIfInBounds_toArray, List.set_cons_succ, List.set_cons_zero]
                  refine held_take 5 ?_ rfl (by kernel_rfl) (by kernel_rfl) (by kernel_rfl) (fun _ _ _ h => h) (Or.inl ⟨by kernel_rfl, ?_⟩) trivial ?_
                  rotate_left 1
                  · intro u _; go_simp; first | done | with_reducible rfl
                  try simp only [Act.put, List.setIfInBounds_toArray, List.set_cons_succ, List.set_cons_zero]
                  refine held_take 6 ?_ rfl (by kernel_rfl) (by kernel_rfl) (by kernel_rfl) (fun _ _ _ h => h) (Or.inl ⟨by kernel_rfl, ?_⟩) trivial ?_
                  rotate_left 1
                  · intro u _; go_simp; first | done | with_reducible rfl
                  try simp only [Act.put, List.setIfInBounds_toArray, List.set_cons_succ, List.set_cons_zero]
                  refine held_take 7 ?_ rfl (by kernel_rfl) (by kernel_rfl) (by kernel_rfl) (fun _ _ _ h => h) (Or.inl ⟨by kernel_rfl, ?_⟩) trivial ?_
                  rotate_left 1
                  · intro u _; go_simp; first | done | with_reducible rfl
                  try simp only [Act.put, List.setIfInBounds_toArray, List.set_cons_succ, List.set_cons_zero]
                  refine held_take 9 ?_ rfl (by kernel_rfl) (by kernel_rfl) (by kernel_rfl) (fun _ _ _ h => h) (Or.inl ⟨by kernel_rfl, ?_⟩) trivial ?_
                  rotate_left 1
                  · intro u _; go_simp; first | done | with_reducible rfl
                  try simp only [Act.put, List.setIfInBounds_toArray, List.set_cons_succ, List.set_cons_zero]
                  refine held_take 10 ?_ rfl (by kernel_rfl) (by kernel_rfl) (by kernel_rfl) (fun _ _ _ h => h) (Or.inl ⟨by kernel_rfl, ?_⟩) trivial ?_
                  rotate_left 1
                  · intro u _; go_simp; first | done | with_reducible rfl
                  try simp only [Act.put, List.setIfInBounds_toArray, List.set_cons_succ, List.set_cons_zero]
                  refine held_take 11 ?_ rfl (by kernel_rfl) (by kernel_rfl) (by kernel_rfl) (fun _ _ _ h => h) (Or.inl ⟨by kernel_rfl, ?_⟩) trivial ?_
                  rotate_left 1
                  · intro u _; go_simp; first | done | with_reducible rfl
                  try simp only [Act.put, List.setIfInBounds_toArray, List.set_cons_succ, List.set_cons_zero]
                  refine held_take 12 ?_ rfl (by kernel_rfl) (by kernel_rfl) (by kernel_rfl) (fun _ _ _ h => h) (Or.inl ⟨by kernel_rfl, ?_⟩) trivial ?_
                  rotate_left 1
                  · intro u _; go_simp; first | done | with_reducible rfl
                  try simp only [Act.put, List.setIfInBounds_toArray, List.set_cons_succ, List.set_cons_zero]
                  refine held_take 13 ?_ rfl (by kernel_rfl) (by kernel_rfl) (by kernel_rfl) (fun _ _ _ h => h) (Or.inl ⟨by kernel_rfl, ?_⟩) trivial ?_
                  rotate_left 1
                  · intro u _; go_simp; first | done | with_reducible rfl
                  try simp only [Act.put, List.setIfInBounds_toArray, List.set_cons_succ, List.set_cons_zero]
                  refine held_one 8 (by kernel_rfl) rfl (by kernel_rfl) (fun Kb hKb => ?_)
                  go_simp
                  refine (fullq' (q5.drewN _) HC.out).mono ?_
                  rintro e w7 ⟨rfl, k7, rfl⟩
                  refine hKb _ _ trivial ?_
                  try simp only [Act.put, List.setIfInBounds_toArray, List.set_cons_succ, List.set_cons_zero]
                  refine held_take 14 ?_ rfl (by kernel_rfl) (by kernel_rfl) (by kernel_rfl) (fun _ _ _ h => h) (Or.inl ⟨by kernel_rfl, ?_⟩) trivial ?_
                  rotate_left 1
                  · intro u _; go_simp; first | done | with_reducible rfl
                  try simp only [Act.put, List.setIfInBounds_toArray, List.set_cons_succ, List.set_cons_zero]
                  refine held_take 15 ?_ rfl (by kernel_rfl) (by kernel_rfl) (by kernel_rfl) (fun _ _ _ h => h) (Or.inl ⟨by kernel_rfl, ?_⟩) trivial ?_
                  rotate_left 1
                  · intro u _; go_simp; first | done | with_reducible rfl
                  try simp only [Act.put, List.setIfInBounds_toArray, List.set_cons_succ, List.set_cons_zero]
                  refine held_take 16 ?_ rfl (by kernel_rfl) (by kernel_rfl) (by kernel_rfl) (fun _ _ _ h => h) (Or.inl ⟨by kernel_rfl, ?_⟩) trivial ?_
                  rotate_left 1
                  · intro u _; go_simp; first | done | with_reducible rfl
                  try simp only [Act.put, List.setIfInBounds_toArray, List.set_cons_succ, List.set_cons_zero]
                  refine held_take 17 ?_ rfl (by kernel_rfl) (by kernel_rfl) (by kernel_rfl) (fun _ _ _ h => h) (Or.inl ⟨by kernel_rfl, ?_⟩) trivial ?_
                  rotate_left 1
                  · intro u _; go_simp; first | done | with_reducible rfl
                  try simp only [Act.put, List.setIfInBounds_toArray, List.set_cons_succ, List.set_cons_zero]
                  refine held_take 19 ?_ rfl (by kernel_rfl) (by kernel_rfl) (by kernel_rfl) (fun _ _ _ h => h) (Or.inl ⟨by kernel_rfl, ?_⟩) trivial ?_
                  rotate_left 1
                  · intro u _; go_simp; first | done | with_reducible rfl
                  try simp only [Act.put, List.setIfInBounds_toArray, List.set_cons_succ, List.set_cons_zero]
                  refine held_take 20 ?_ rfl (by kernel_rfl) (by kernel_rfl) (by kernel_rfl) (fun _ _ _ h => h) (Or.inl ⟨by kernel_rfl, ?_⟩) trivial ?_
                  rotate_left 1
                  · intro u _; go_simp; first | done | with_reducible rfl
                  try simp only [Act.put, List.setIfInBounds_toArray, List.set_cons_succ, List.set_cons_zero]
                  refine held_take 21 ?_ rfl (by kernel_rfl) (by kernel_rfl) (by kernel_rfl) (fun _ _ _ h => h) (Or.inl ⟨by kernel_rfl, ?_⟩) trivial ?_
                  rotate_left 1
                  · intro u _; go_simp; first | done | with_reducible rfl
                  try simp only [Act.put, List.setIfInBounds_toArray, List.set_cons_succ, List.set_cons_zero]
                  refine held_take 22 ?_ rfl (by kernel_rfl) (by kernel_rfl) (by kernel_rfl) (fun _ _ _ h => h) (Or.inl ⟨by kernel_rfl, ?_⟩) trivial ?_
                  rotate_left 1
                  · intro u _; go_simp; first | done | with_reducible rfl
                  try simp only [Act.put, List.setIfInBounds_toArray, List.set_cons_succ, List.set_cons_zero]
                  refine held_one 18 (by kernel_rfl) rfl (by kernel_rfl) (fun Kc hKc => ?_)
                  go_simp
                  refine (listq rowsSaid (q5.drewN _)).mono ?_
                  rintro e w8 ⟨⟨v8, rfl, n8⟩, t8⟩
                  have b8 := below_turn_n (below_drewN b5 _) t8 (Nat.le_refl _)
                  have q8 := (q5.drewN _).turn t8 (fun h => h)
                  have s8 := SlI.below hss (w' := w8) (B := wr.heap.size) ⟨t8.os, t8.tape, t8.output, t8.size, fun k hk => t8.block k hk (fun h => h)⟩ (Nat.le_refl _)
                  refine hKc _ _ trivial ?_
                  try simp only [Act.put, List.setIfInBounds_toArray, List.set_cons_succ, List.set_cons_zero]
                  refine held_one 23 (by kernel_rfl) rfl (by kernel_rfl) (fun Kd hKd => ?_)
                  go_simp
                  refine (words20_same n8.sl s8 (by rw [HQL.out]; omega)).mono ?_
                  rintro e w9 ⟨rfl, k9, rfl⟩
                  refine hKd _ _ trivial ?_
                  try simp only [Act.put, List.setIfInBounds_toArray, List.set_cons_succ, List.set_cons_zero]
                  refine held_take 24 ?_ rfl (by kernel_rfl) (by kernel_rfl) (by kernel_rfl) (fun _ _ _ h => h) (Or.inl ⟨by kernel_rfl, ?_⟩) trivial ?_
                  rotate_left 1
                  · intro u _; go_simp; first | done | with_reducible rfl
                  try simp only [Act.put, List.setIfInBounds_toArray, List.set_cons_succ, List.set_cons_zero]
                  refine held_take 25 ?_ rfl (by kernel_rfl) (by kernel_rfl) (by kernel_rfl) (fun _ _ _ h => h) (Or.inl ⟨by kernel_rfl, ?_⟩) trivial ?_
                  rotate_left 1
                  · intro u _; go_simp; first | done | with_reducible rfl
                  try simp only [Act.put, List.setIfInBounds_toArray, List.set_cons_succ, List.set_cons_zero]
                  refine wpAnyH_done (by kernel_rfl) ?_ _
                  clear hwr
                  go_wp2_with fail
                  go_roundw
                  case rel => exact ⟨c, t, r + 1, l1, g2, by omega, rfl, rfl, by go_num, by rw [HZ.out]; exact q8.drewN k9, below_drewN b8 k9⟩
                  case measure => simp [intOf]; omega
                  -- END
      · have h60' : ¬ (r : Int) < 60 := by omega
        go_wp2_with fail
        go_ret
        exact ⟨rfl, br⟩
    · have hlt' : ¬ (r : Int) < (nr : Int) := by omega
      go_wp2_with fail
      go_ret
      exact ⟨rfl, br⟩
end Go.Proofs.Ytjnekmdocbmofaa
