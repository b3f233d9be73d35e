/- What List answers is no part of the queue: the law's walk. -/
import Derived.Test.YtjnekmdocbmofaaQj
import Derived.Test.YtjnekmdocbmofaaQd
namespace Go.Proofs.Ytjnekmdocbmofaa
set_option linter.unusedSimpArgs false
set_option linter.unusedVariables false
open Go.RowKit Go.Shelf

theorem SlI.below {B : Nat} {w w' : World} {v : Value} {L : List Int} (h : SlI w v L) (hb : Below B w w') (hB : w.heap.size ≤ B) : SlI w' v L := by
  rcases h with h | ⟨b, of, c, h1, h2, h3⟩
  · exact .inl h
  · refine .inr ⟨b, of, c, h1, h2, fun i hi => ?_⟩
    have := h3 i hi
    exact (hb.cell (p := ⟨b, of + i, none⟩) (Nat.lt_of_lt_of_le (World.block_lt_of_cell? _ _ this) hB)).trans this

theorem SlI.shape {w : World} {v : Value} {L : List Int} (h : SlI w v L) : ∃ pa cap, v = .slice pa L.length cap ∧ L.length ≤ cap := by
  rcases h with ⟨rfl, pa, ca, rfl⟩ | ⟨b, of, c, rfl, h2, _⟩
  · exact ⟨_, _, rfl, Nat.zero_le _⟩
  · exact ⟨_, _, rfl, h2⟩

theorem SlI.take {w : World} {pa : Option Addr} {n cap k : Nat} {L : List Int} (h : SlI w (.slice pa n cap) L) (hk : k ≤ L.length) : SlI w (.slice pa k cap) (L.take k) := by
  rcases h with ⟨rfl, pa', ca', e⟩ | ⟨b, of, c, e, h2, h3⟩
  · cases e
    simp at hk
    subst hk
    exact .inl ⟨rfl, _, _, rfl⟩
  · cases e
    refine .inr ⟨b, of, cap, by simp [Nat.min_eq_left hk], by simp; omega, fun i hi => ?_⟩
    have hi2 : i < k := by simp at hi; omega
    rw [h3 i (by omega), List.getElem?_take_of_lt hi2]

theorem run_sliceTo35 (pa : Option Addr) (n cap k : Nat) (h : k ≤ cap) (w : World) :
    (Instr.sliceAt 35 (.slice pa n cap) none (some (.int .i64 (k : Int))) none).run Try.prog w = .ok (.slice pa k cap) w := by
  have h8 := info2
  cases hq : Try.prog.info? 2 with
  | none => simp [hq] at h8
  | some i =>
    have e2 : (k : Int) ≤ cap := by omega
    have e : pa.map (fun a => a.add 0) = pa := by
      cases pa with
      | none => rfl
      | some a => simp [Addr.add]
    by_cases h0 : cap = 0
    · subst h0
      obtain rfl : k = 0 := by omega
      simp [Instr.sliceAt, Instr.slice, run_underlying under35, go_sem, sizeOf, typeInfo, hq]
    · have h0' : ¬ (0 = cap) := by omega
      simp [Instr.sliceAt, Instr.slice, run_underlying under35, go_sem, sizeOf, typeInfo, hq, e2, e]

theorem run_min_k (n : Nat) (w : World) : (Builtin.min_ #[3, 3] 3 #[.int .i64 (n : Int), .int .i64 16]).run Try.prog w = .ok (.int .i64 ((min n 16 : Nat) : Int)) w := by
  rw [run_min_int2]
  congr 2
  split <;> omega

theorem SlI.at {w : World} {pa : Option Addr} {n cap : Nat} {L : List Int} (h : SlI w (.slice pa n cap) L) {i : Nat} (hi : i < n) : ∃ b o, pa = some ⟨b, o, none⟩ ∧ w.cell? ⟨b, o + i, none⟩ = some (.int .i64 (L[i]?.getD 0)) := by
  rcases h with ⟨rfl, pa', ca', e⟩ | ⟨b, of, c, e, h2, h3⟩
  · cases e; omega
  · cases e
    exact ⟨b, of, rfl, h3 i hi⟩

theorem take_snoc_get (M : List Int) (k : Nat) (h : k < M.length) : M.take k ++ [M[k]?.getD 0] = M.take (k + 1) := by
  rw [List.take_add_one, List.getElem?_eq_getElem h]; rfl

theorem drop_cons_get (M : List Int) (k : Nat) (h : k < M.length) : M.drop k = M[k]?.getD 0 :: M.drop (k + 1) := by
  rw [List.drop_eq_getElem_cons h, List.getElem?_eq_getElem h]; rfl

/-- The second list, of which words are turned. -/
theorem NewI.set {w : World} {nb : Nat} {K : Nat} {M : List Int} (h : NewI w nb (.slice (some ⟨nb, 0, none⟩) K K) M) (i : Nat) (x : Int) : NewI (w.setCell ⟨nb, i, none⟩ (.int .i64 x)) nb (.slice (some ⟨nb, 0, none⟩) K K) (M.set i x) := by
  rcases h with ⟨_, e⟩ | ⟨⟨h0, e⟩, h⟩
  · cases e
  · cases e
    refine .inr ⟨⟨fun e => h0 (by have := congrArg List.length e; rw [List.length_set] at this; exact List.eq_nil_of_length_eq_zero this), by rw [List.length_set]⟩, ?_⟩
    rw [heap_setCell_at h]
    simp only [ints, List.setIfInBounds_toArray, List.map_set]

set_option maxRecDepth 100000 in
set_option maxHeartbeats 4000000 in
theorem own20 (w : World) (va : Value) (L : List Int) (ha : SlI w va L) :
    Calls Try.prog 5 #[va] w fun e w' => e = .returned (.bool true) ∧ Below w.heap.size w w' := by
  obtain ⟨pa, cap, rfl, hcap⟩ := ha.shape
  obtain ⟨n, hn⟩ : ∃ n, L.length = n := ⟨_, rfl⟩
  rw [hn] at ha hcap ⊢
  obtain ⟨K, hK⟩ : ∃ K, min n 16 = K := ⟨_, rfl⟩
  have hK16 : K ≤ 16 := by omega
  have hKn : K ≤ n := by omega
  have hmn := run_min_k n
  rw [hK] at hmn
  have hsl := run_sliceTo35 pa n cap K (by omega)
  obtain ⟨M, hM⟩ : ∃ M, L.take K = M := ⟨_, rfl⟩
  have hMl : M.length = K := by rw [← hM, List.length_take]; omega
  have hs := ha.take (k := K) (by omega)
  rw [hM] at hs
  have HML := Lib.hid hMl
  clear hMl hM hK hn ha
  go_enter Try.func5, Try.ntmps5
  go_wp2_with fail
  refine (works20 rowsSaid w).mono ?_
  rintro e w1 ⟨rfl, b1⟩
  have hs1 := hs.below b1 (Nat.le_refl _)
  go_wp2_with fail
  refine (new_ok 16 w1 (by omega) (by omega)).mono ?_
  rintro e w2 ⟨rfl, hw2⟩
  obtain ⟨q, hq⟩ : ∃ q, w1.heap.size = q := ⟨_, rfl⟩
  have hqw : w.heap.size ≤ q := by rw [← hq]; exact b1.size
  have q2 : QIs w2 q [] 16 := by rw [hw2, ← hq]; exact QIs.new (by omega) (by omega)
  have b2 : Below w.heap.size w w2 := by rw [hw2]; exact b1.alloc b1.size _
  rw [hq]
  clear hw2 hq b1 hs1
  go_wp2_with fail
  go_loopw [4] (fun i wr => ∃ k : Nat, k ≤ K ∧ i = .int .i64 k ∧ QIs wr q (M.take k) 16 ∧ Below w.heap.size w wr) (fun i _ => K - (intOf i).toNat)
  case atStart => exact ⟨0, Nat.zero_le _, rfl, q2, b2⟩
  case round =>
    obtain ⟨k, hk, rfl, qr, br⟩ := hrel
    by_cases hlt : k < K
    · obtain ⟨b, o, rfl, hc⟩ := (hs.below br (Nat.le_refl _)).at hlt
      obtain ⟨x, hx⟩ : ∃ x, M[k]?.getD 0 = x := ⟨_, rfl⟩
      rw [hx] at hc
      have HX := Lib.hid hx
      clear hx
      have hk2 : (k : Int) < (K : Int) := by omega
      go_wp2_with fail
      refine (putq_ok qr x (by rw [List.length_take, HML.out]; omega)).mono ?_
      rintro e w3 ⟨rfl, q3, t3⟩
      go_wp2_with fail
      go_roundw
      case rel => exact ⟨k + 1, by omega, by go_num, by rw [← take_snoc_get M k (by rw [HML.out]; exact hlt), HX.out]; exact q3, below_turn_q br t3 hqw (Nat.le_refl _)⟩
      case measure => simp [intOf]; omega
    · obtain rfl : k = K := by omega
      have qr : QIs wr q M 16 := by rw [← List.take_of_length_le (l := M) (i := k) (by rw [HML.out]; exact Nat.le_refl _)]; exact qr
      have hsr := hs.below br (Nat.le_refl _)
      go_wp2_with fail
      refine (listq rowsSaid qr).mono ?_
      rintro e w4 ⟨⟨v4, rfl, n4⟩, t4⟩
      go_wp2_with fail
      obtain ⟨A, hA⟩ : ∃ A, wr.heap.size = A := ⟨_, rfl⟩
      have hqA : q < A := by rw [← hA]; exact qr.lt
      have q4 := qr.turn t4 (fun h => h)
      have b4 := below_turn_n br t4 (Nat.le_refl _)
      rw [hA] at n4
      refine (listq rowsSaid q4).mono ?_
      rintro e w5 ⟨⟨v5, rfl, n5⟩, t5⟩
      obtain ⟨B, hB⟩ : ∃ B, w4.heap.size = B := ⟨_, rfl⟩
      have hAB : A ≤ B := by rw [← hA, ← hB]; exact t4.size
      have hqB : q < B := by omega
      have hAltB : 0 < k → A < B := fun h0 => by
        rcases n4 with ⟨e, _⟩ | ⟨_, e⟩
        · have := HML.out; rw [e] at this; simp at this; omega
        · rw [← hB]; exact (Array.getElem?_eq_some_iff.1 e).1
      have n4' := n4.turn t5 (fun h => h)
      have q5 := q4.turn t5 (fun h => h)
      have b5 := below_turn_n b4 t5 (Nat.le_refl _)
      rw [hB] at n5
      obtain ⟨a5, c5, e5, _⟩ := n5.sl.shape
      have e5' : v5 = .slice a5 k c5 := by rw [e5, HML.out]
      subst e5'
      clear e5 hA hB q4 b4 n4 t4 t5 qr br hmn hsl hsr
      go_wp2_with fail
      go_loopw [7] (fun i wr => ∃ (j : Nat) (M' : List Int), j ≤ k ∧ i = .int .i64 j ∧ M'.length = k ∧ NewI wr B (.slice a5 k c5) M' ∧ Turn (QIn B) w5 wr) (fun i _ => k - (intOf i).toNat)
      case atStart => exact ⟨0, M, Nat.zero_le _, rfl, HML.out, n5, Turn.refl _ _⟩
      case round =>
        obtain ⟨j, M', hj, rfl, hM', nr, tr⟩ := hrel
        have HM' := Lib.hid hM'
        clear hM'
        by_cases hlt : j < k
        · obtain ⟨rfl, rfl⟩ : a5 = some ⟨B, 0, none⟩ ∧ c5 = k := by
            rcases nr with ⟨e, _⟩ | ⟨e, _⟩
            · have := HM'.out; rw [e] at this; simp at this; omega
            · rw [HM'.out] at e; cases e.2; exact ⟨rfl, rfl⟩
          have hc : wr.cell? ⟨B, j, none⟩ = some (.int .i64 (M'[j]?.getD 0)) := by
            rcases nr with ⟨_, e⟩ | ⟨_, e⟩
            · cases e
            · rw [cell_blk e]; simp [ints, HM'.out, hlt]
          have hz : wr.frozen? ⟨B, j, none⟩ = false := by
            rcases nr with ⟨_, e⟩ | ⟨_, e⟩
            · cases e
            · exact frozen_blk e _
          obtain ⟨x, hx⟩ : ∃ x, M'[j]?.getD 0 = x := ⟨_, rfl⟩
          rw [hx] at hc
          clear hx
          have hj2 : (j : Int) < (c5 : Int) := by omega
          have NR := Lib.hid nr
          clear nr
          go_wp2_with fail
          go_roundw
          case rel => exact ⟨j + 1, _, by omega, by go_num, by rw [List.length_set]; exact HM'.out, NR.out.set j _, tr.setCell (p := ⟨B, j, none⟩) (.inl rfl) _⟩
          case measure => simp [intOf]; omega
        · obtain rfl : j = k := by omega
          have n6 : NewI wr A v4 M := by
            rcases n4' with h | h
            · exact .inl h
            · refine NewI.turn (.inr h) tr (fun e => ?_)
              have e : A = B := e
              have : 0 < j := by
                rw [← HML.out]
                exact List.length_pos_iff.2 h.1.1
              have := hAltB this
              omega
          have q6 : QIs wr q M 16 := q5.turn tr (fun h => by have : q = B := h; omega)
          have b6 : Below w.heap.size w wr := Turn.below b5 tr (fun i hi => by have : i = B := hi; omega) b5.size
          have s6 := hs.below b6 (Nat.le_refl _)
          go_wp2_with fail
          refine (words20_same n6.sl s6 (by rw [HML.out]; omega)).mono ?_
          rintro e w7 ⟨rfl, k7, rfl⟩
          have hqA' : ¬ QIn q A := fun h => by have : A = q := h; omega
          clear hqB hAB hAltB n4' n5 q5 b5 s6 tr nr
          go_wp2_with fail
          go_loopw [8] (fun i wr => ∃ (p : Nat) (X : List Int), p ≤ j ∧ i = .int .i64 p ∧ X.length = p ∧ QIs wr q (M.drop p ++ X) 16 ∧ NewI wr A v4 M ∧ Below w.heap.size w wr) (fun i _ => j - (intOf i).toNat)
          case atStart => exact ⟨0, [], Nat.zero_le _, rfl, rfl, by simpa using q6.drewN k7, n6.turn (((Turn.refl Nn _)).drewN k7) (fun h => h), below_drewN b6 k7⟩
          case round =>
            obtain ⟨p, X, hp, rfl, hX, q8, n8, b8⟩ := hrel
            have HXL := Lib.hid hX
            clear hX
            by_cases hlt : p < j
            · obtain ⟨b, o, rfl, hc⟩ := (hs.below b8 (Nat.le_refl _)).at hlt
              rw [drop_cons_get M p (by rw [HML.out]; exact hlt), List.cons_append] at q8
              obtain ⟨x, hx⟩ : ∃ x, M[p]?.getD 0 = x := ⟨_, rfl⟩
              rw [hx] at hc q8
              have HX := Lib.hid hx
              clear hx
              have hp2 : (p : Int) < (j : Int) := by omega
              go_wp2_with fail
              refine (takeq_ok q8).mono ?_
              rintro e w9 ⟨rfl, q9, t9⟩
              have b9 := below_turn_q b8 t9 hqw (Nat.le_refl _)
              have n9 := n8.turn t9 hqA'
              obtain ⟨b', o', e', hc'⟩ := (hs.below b9 (Nat.le_refl _)).at hlt
              cases e'
              rw [HX.out] at hc'
              go_wp2_with fail
              refine (putq_ok q9 _ (by rw [List.length_append, List.length_drop, HML.out, HXL.out]; omega)).mono ?_
              rintro e w10 ⟨rfl, q10, t10⟩
              have b10 := below_turn_q b9 t10 hqw (Nat.le_refl _)
              have n10 := n9.turn t10 hqA'
              go_wp2_with fail
              go_roundw
              case rel => exact ⟨p + 1, X ++ [wrap64 (x + 1)], by omega, by go_num, by rw [List.length_append, HXL.out]; rfl, by rw [← List.append_assoc]; exact q10, n10, b10⟩
              case measure => simp [intOf]; omega
            · obtain rfl : p = j := by omega
              rw [List.drop_of_length_le (by rw [HML.out]; exact Nat.le_refl _), List.nil_append] at q8
              have hs8 := hs.below b8 (Nat.le_refl _)
              go_wp2_with fail
              refine (words20_same n8.sl hs8 (by rw [HML.out]; omega)).mono ?_
              rintro e w9 ⟨rfl, k9, rfl⟩
              go_wp2_with fail
              refine (listq rowsSaid (q8.drewN k9)).mono ?_
              rintro e w10 ⟨⟨v10, rfl, n10⟩, t10⟩
              obtain ⟨a10, c10, e10, _⟩ := n10.sl.shape
              rw [HXL.out] at e10
              subst e10
              have b10 := below_turn_n (below_drewN b8 k9) t10 (Nat.le_refl _)
              go_wp2_with fail
              go_ret
              exact ⟨rfl, b10⟩
end Go.Proofs.Ytjnekmdocbmofaa
