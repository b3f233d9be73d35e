/- The document's reading: number, half. The document's reading: words. Printed by gen_mb.py. The document's reading: numbers. The document's reading: unhex. Printed by gen_md.py. The document's reading: the first line. Printed by gen_me.py. -/
import Derived.Test.YtjnllclpdllceaaGreatDoorUd
import Derived.Test.YtjnllclpdllceaaGreatDoorUh
import Derived.Test.YtjnllclpdllceaaGreatDoorSx
namespace Go.Proofs.YtjnllclpdllceaaGreatDoor
set_option linter.unusedSimpArgs false
set_option linter.unusedVariables false
open Go.RowKit Go.Shelf


def numI (l : Bs) : Int := match numL l with | some n => (n : Int) | none => -1

theorem valGo_bad {l : Bs} {k m : Nat} (h : k < l.length) (h0 : valGo 0 (l.take k) = some m) (hc : ¬ (48 ≤ l[k].toNat ∧ l[k].toNat ≤ 57)) : valGo 0 l = none := by
  have e : l = l.take k ++ l[k] :: l.drop (k + 1) := by rw [← List.drop_eq_getElem_cons h, List.take_append_drop]
  rw [e, valGo_append, h0]
  simp only [Option.bind_some, valGo]
  rw [if_neg hc]
theorem valGo_good {l : Bs} {k m : Nat} (h : k < l.length) (h0 : valGo 0 (l.take k) = some m) (hc : 48 ≤ l[k].toNat ∧ l[k].toNat ≤ 57) : valGo 0 (l.take (k + 1)) = some (10 * m + (l[k].toNat - 48)) := by
  rw [List.take_succ_eq_append_getElem h, valGo_append, h0]
  simp only [Option.bind_some, valGo]
  rw [if_pos hc]

theorem numI_no {l : Bs} (h : l.length < 1 ∨ 9 < l.length ∨ (l.head? = some 48 ∧ 1 < l.length)) : numI l = -1 := by
  unfold numI
  rw [← refNum_numL]
  unfold refNum
  rw [if_pos h]
theorem numI_go {l : Bs} (h : ¬ (l.length < 1 ∨ 9 < l.length ∨ (l.head? = some 48 ∧ 1 < l.length))) : numI l = match valGo 0 l with | some n => (n : Int) | none => -1 := by
  unfold numI
  rw [← refNum_numL]
  unfold refNum
  rw [if_neg h]

set_option maxRecDepth 100000 in
set_option maxHeartbeats 4000000 in
theorem refNumber_any {l : Bs} (hl : l.length ≤ 1000000) (w : World) : Calls Tryz.prog 87 #[.string (BT l)] w fun e w' => e = .returned (.int .i64 (numI l)) ∧ w' = w := by
  obtain ⟨M, hM⟩ : ∃ M, BT l = M := ⟨_, rfl⟩
  have hMs : M.size = l.length := by rw [← hM, BT_size]
  have HM := Lib.hid hM
  have HMS := Lib.hid hMs
  have hMl : M.size ≤ 1000000 := by omega
  obtain ⟨z, hz⟩ : ∃ z, numI l = z := ⟨_, rfl⟩
  have HZ := Lib.hid hz
  rw [hM, hz]
  by_cases h1 : l.length < 1
  · obtain rfl : z = -1 := by rw [← hz]; exact numI_no (.inl h1)
    have h2 : M.size < 1 := by omega
    clear hM hMs hz h1 hl
    go_enter Tryz.func87, Tryz.ntmps87
    go_wp2_with fail
    go_ret
    exact ⟨rfl, rfl⟩
  by_cases h2 : 9 < l.length
  · obtain rfl : z = -1 := by rw [← hz]; exact numI_no (.inr (.inl h2))
    have h3 : 9 < M.size := by omega
    clear hM hMs hz h1 hl h2
    go_enter Tryz.func87, Tryz.ntmps87
    go_wp2_with fail
    go_ret
    exact ⟨rfl, rfl⟩
  obtain ⟨c, hc⟩ : ∃ c, l[0]'(by omega) = c := ⟨_, rfl⟩
  have hi0 : ∀ w, (Instr.index 9 (.string M) (.int .i64 0)).run Tryz.prog w = .ok (.int .u8 (c.toNat : Int)) w := fun w => by
    rw [← hM, ← hc]
    have := BT_at (s := l) (k := 0) (by omega) w
    exact this
  have hhd : l.head? = some c := by
    rw [← hc]
    cases l with
    | nil => simp at h1
    | cons a r => rfl
  have h3 : 1 ≤ M.size := by omega
  have h4 : M.size ≤ 9 := by omega
  by_cases h5 : c = 48
  · subst h5
    have h7 : ((48 : UInt8).toNat : Int) = 48 := rfl
    rw [h7] at hi0
    by_cases h6 : 1 < M.size
    · obtain rfl : z = -1 := by rw [← hz]; exact numI_no (.inr (.inr ⟨hhd, by omega⟩))
      clear hM hMs hz h1 hl h2 hhd hc h7
      go_enter Tryz.func87, Tryz.ntmps87
      go_wp2_with fail
      go_ret
      exact ⟨rfl, rfl⟩
    · have HNO : Hid (¬ (l.length < 1 ∨ 9 < l.length ∨ (l.head? = some 48 ∧ 1 < l.length))) := Lib.hid (by
        rintro (h | h | ⟨h, h'⟩)
        · exact h1 h
        · exact h2 h
        · omega)
      clear hM hMs hz h1 hl h2 hhd hc
      go_enter Tryz.func87, Tryz.ntmps87
      go_wp2_with fail
      clear hi0 h7 h6
      go_loop [3, 4] (fun n i => ∃ k m : Nat, k ≤ M.size ∧ i = .int .i64 k ∧ n = .int .i64 m ∧ m < 10 ^ k ∧ valGo 0 (l.take k) = some m) (fun _ i => M.size - (intOf i).toNat)
      case atStart => exact ⟨0, 0, by omega, rfl, rfl, by decide, rfl⟩
      case round =>
        obtain ⟨k, m, hk, rfl, rfl, hm, hv⟩ := hrel
        by_cases hlt : k < M.size
        · have hkl : k < l.length := by rw [← HMS.out]; exact hlt
          have hB := fun h => valGo_bad hkl hv h
          have hG := fun h => valGo_good hkl hv h
          obtain ⟨d, hd⟩ : ∃ d, l[k] = d := ⟨_, rfl⟩
          have hiS : ∀ w, (Instr.index 9 (.string M) (.int .i64 k)).run Tryz.prog w = .ok (.int .u8 (d.toNat : Int)) w := fun w => by
            rw [← HM.out, ← hd]; exact BT_at hkl w
          rw [hd] at hB hG
          have hm9 : m < 1000000000 := by
            have : 10 ^ k ≤ 10 ^ 8 := Nat.pow_le_pow_right (by decide) (by omega)
            have e8 : (10 : Nat) ^ 8 = 100000000 := by decide
            omega
          have hdl := d.toNat_lt
          by_cases c1 : d.toNat < 48
          · obtain rfl : z = -1 := by rw [← HZ.out, numI_go HNO.out, hB (by omega)]
            have c1' : (d.toNat : Int) < 48 := by omega
            clear hB hG hd hv hkl hm c1
            go_wp2_with fail
            go_ret
            exact ⟨rfl, rfl⟩
          by_cases c2 : 57 < d.toNat
          · obtain rfl : z = -1 := by rw [← HZ.out, numI_go HNO.out, hB (by omega)]
            have c1' : ¬ (d.toNat : Int) < 48 := by omega
            have c2' : (57 : Int) < (d.toNat : Int) := by omega
            clear hB hG hd hv hkl hm c1 c2
            go_wp2_with fail
            go_ret
            exact ⟨rfl, rfl⟩
          · have HG := Lib.hid (hG ⟨by omega, by omega⟩)
            have c1' : ¬ (d.toNat : Int) < 48 := by omega
            have c2' : ¬ (57 : Int) < (d.toNat : Int) := by omega
            have HM2 : Hid (10 * m + (d.toNat - 48) < 10 ^ (k + 1)) := Lib.hid (by rw [Nat.pow_succ]; omega)
            have hsub : ((d.toNat : Int) - 48) = ((d.toNat - 48 : Nat) : Int) := by omega
            obtain ⟨e, he⟩ : ∃ e : Nat, d.toNat - 48 = e := ⟨_, rfl⟩
            rw [he] at HG HM2 hsub
            have hel : e ≤ 9 := by omega
            clear hB hG hd hv hkl hm c1 c2 he
            go_wp2_with fail
            go_round
            case rel => exact ⟨k + 1, 10 * m + e, by omega, by go_num, by go_num, HM2.out, HG.out⟩
            case measure => simp [intOf]; omega
        · have hkl : l.take k = l := List.take_of_length_le (by rw [← HMS.out]; omega)
          rw [hkl] at hv
          obtain rfl : z = m := by rw [← HZ.out, numI_go HNO.out, hv]
          clear hv hkl hm
          go_wp2_with fail
          go_ret
          exact ⟨rfl, rfl⟩
  · have h7 : ((c.toNat : Int) == 48) = false := by
      rw [beq_eq_false_iff_ne]
      intro e
      apply h5
      apply UInt8.toNat_inj.1
      have h48 : (48 : UInt8).toNat = 48 := rfl
      omega
    have HNO : Hid (¬ (l.length < 1 ∨ 9 < l.length ∨ (l.head? = some 48 ∧ 1 < l.length))) := Lib.hid (by
      rintro (h | h | ⟨h, h'⟩)
      · exact h1 h
      · exact h2 h
      · rw [hhd] at h; exact h5 (Option.some.inj h))
    clear hM hMs hz h1 hl h2 hhd hc
    go_enter Tryz.func87, Tryz.ntmps87
    go_wp2_with fail
    clear hi0 h7 h5
    go_loop [3, 4] (fun n i => ∃ k m : Nat, k ≤ M.size ∧ i = .int .i64 k ∧ n = .int .i64 m ∧ m < 10 ^ k ∧ valGo 0 (l.take k) = some m) (fun _ i => M.size - (intOf i).toNat)
    case atStart => exact ⟨0, 0, by omega, rfl, rfl, by decide, rfl⟩
    case round =>
      obtain ⟨k, m, hk, rfl, rfl, hm, hv⟩ := hrel
      by_cases hlt : k < M.size
      · have hkl : k < l.length := by rw [← HMS.out]; exact hlt
        have hB := fun h => valGo_bad hkl hv h
        have hG := fun h => valGo_good hkl hv h
        obtain ⟨d, hd⟩ : ∃ d, l[k] = d := ⟨_, rfl⟩
        have hiS : ∀ w, (Instr.index 9 (.string M) (.int .i64 k)).run Tryz.prog w = .ok (.int .u8 (d.toNat : Int)) w := fun w => by
          rw [← HM.out, ← hd]; exact BT_at hkl w
        rw [hd] at hB hG
        have hm9 : m < 1000000000 := by
          have : 10 ^ k ≤ 10 ^ 8 := Nat.pow_le_pow_right (by decide) (by omega)
          have e8 : (10 : Nat) ^ 8 = 100000000 := by decide
          omega
        have hdl := d.toNat_lt
        by_cases c1 : d.toNat < 48
        · obtain rfl : z = -1 := by rw [← HZ.out, numI_go HNO.out, hB (by omega)]
          have c1' : (d.toNat : Int) < 48 := by omega
          clear hB hG hd hv hkl hm c1
          go_wp2_with fail
          go_ret
          exact ⟨rfl, rfl⟩
        by_cases c2 : 57 < d.toNat
        · obtain rfl : z = -1 := by rw [← HZ.out, numI_go HNO.out, hB (by omega)]
          have c1' : ¬ (d.toNat : Int) < 48 := by omega
          have c2' : (57 : Int) < (d.toNat : Int) := by omega
          clear hB hG hd hv hkl hm c1 c2
          go_wp2_with fail
          go_ret
          exact ⟨rfl, rfl⟩
        · have HG := Lib.hid (hG ⟨by omega, by omega⟩)
          have c1' : ¬ (d.toNat : Int) < 48 := by omega
          have c2' : ¬ (57 : Int) < (d.toNat : Int) := by omega
          have HM2 : Hid (10 * m + (d.toNat - 48) < 10 ^ (k + 1)) := Lib.hid (by rw [Nat.pow_succ]; omega)
          have hsub : ((d.toNat : Int) - 48) = ((d.toNat - 48 : Nat) : Int) := by omega
          obtain ⟨e, he⟩ : ∃ e : Nat, d.toNat - 48 = e := ⟨_, rfl⟩
          rw [he] at HG HM2 hsub
          have hel : e ≤ 9 := by omega
          clear hB hG hd hv hkl hm c1 c2 he
          go_wp2_with fail
          go_round
          case rel => exact ⟨k + 1, 10 * m + e, by omega, by go_num, by go_num, HM2.out, HG.out⟩
          case measure => simp [intOf]; omega
      · have hkl : l.take k = l := List.take_of_length_le (by rw [← HMS.out]; omega)
        rw [hkl] at hv
        obtain rfl : z = m := by rw [← HZ.out, numI_go HNO.out, hv]
        clear hv hkl hm
        go_wp2_with fail
        go_ret
        exact ⟨rfl, rfl⟩

def halfI (c : UInt8) : Int := match half c with | some n => (n : Int) | none => -1
theorem halfI_lt (c : UInt8) : -1 ≤ halfI c ∧ halfI c ≤ 15 := by
  unfold halfI half
  split
  · rename_i n h
    split at h
    · simp only [Option.some.injEq] at h; omega
    · split at h
      · simp only [Option.some.injEq] at h; omega
      · cases h
  · omega

set_option maxRecDepth 100000 in
theorem half_any (c : UInt8) (w : World) : Calls Tryz.prog 88 #[.int .u8 (c.toNat : Int)] w fun e w' => e = .returned (.int .i64 (halfI c)) ∧ w' = w := by
  have hcl := c.toNat_lt
  obtain ⟨n, hn⟩ : ∃ n, c.toNat = n := ⟨_, rfl⟩
  obtain ⟨z, hz⟩ : ∃ z, halfI c = z := ⟨_, rfl⟩
  have hz2 := hz
  unfold halfI half at hz2
  rw [hn] at hz2 hcl
  rw [hn, hz]
  by_cases h1 : 48 ≤ n ∧ n ≤ 57
  · rw [if_pos h1] at hz2
    simp only at hz2
    have a1 : (48 : Int) ≤ (n : Int) := by omega
    have a2 : (n : Int) ≤ 57 := by omega
    have a3 : (n : Int) - 48 = z := by omega
    have a4 : 0 ≤ z ∧ z ≤ 15 := by omega
    clear hz hn hz2 h1
    go_enter Tryz.func88, Tryz.ntmps88
    go_wp2_with fail
    go_ret
    exact ⟨rfl, rfl⟩
  · rw [if_neg h1] at hz2
    by_cases h2 : 97 ≤ n ∧ n ≤ 102
    · rw [if_pos h2] at hz2
      simp only at hz2
      have a1 : (97 : Int) ≤ (n : Int) := by omega
      have a2 : (n : Int) ≤ 102 := by omega
      have a3 : (n : Int) - 97 + 10 = z := by omega
      have a4 : (48 : Int) ≤ (n : Int) := by omega
      have a5 : ¬ (n : Int) ≤ 57 := by omega
      clear hz hn hz2 h1 h2
      go_enter Tryz.func88, Tryz.ntmps88
      go_wp2_with fail
      go_ret
      exact ⟨rfl, rfl⟩
    · rw [if_neg h2] at hz2
      simp only at hz2
      subst hz2
      clear hz hn
      by_cases b1 : (48 : Int) ≤ (n : Int)
      · have b2 : ¬ (n : Int) ≤ 57 := by omega
        by_cases b3 : (97 : Int) ≤ (n : Int)
        · have b4 : ¬ (n : Int) ≤ 102 := by omega
          clear h1 h2
          go_enter Tryz.func88, Tryz.ntmps88
          go_wp2_with fail
          go_ret
          exact ⟨rfl, rfl⟩
        · clear h1 h2
          go_enter Tryz.func88, Tryz.ntmps88
          go_wp2_with fail
          go_ret
          exact ⟨rfl, rfl⟩
      · have b3 : ¬ (97 : Int) ≤ (n : Int) := by omega
        clear h1 h2
        go_enter Tryz.func88, Tryz.ntmps88
        go_wp2_with fail
        go_ret
        exact ⟨rfl, rfl⟩


def strCellsL (L : List Bs) : List Value := L.map fun x => .string (BT x)
/-- Behind w0: a slice of own texts. -/
structure OWS (w0 : World) (v : Value) (L : List Bs) (w : World) : Prop where
  own : w.ownsRow w0.heap.size 9 1 v L.length (strCellsL L)
  low : Turn Nn w0 w
theorem OWS.nil {w0 w : World} (t : Turn Nn w0 w) : OWS w0 (.slice none 0 0) [] w := ⟨⟨rfl, .inl ⟨rfl, rfl⟩⟩, t⟩
theorem OWS.turn {w0 w w' : World} {v : Value} {L : List Bs} (h : OWS w0 v L w) (t : Turn Nn w w') : OWS w0 v L w' := ⟨ownsRow_turn h.own t, h.low.trans t⟩
theorem OWS.shape {w0 w : World} {v : Value} {L : List Bs} (h : OWS w0 v L w) : ∃ pa n cap, v = .slice pa n cap := by
  rcases h.own.2 with ⟨e, _⟩ | ⟨_, _, _, e, _⟩
  · exact ⟨_, _, _, e⟩
  · exact ⟨_, _, _, e⟩
theorem infoW : (Tryz.prog.info? 9).map (fun i => (i.zero, i.size, i.bytes)) = some (some (.string ⟨#[]⟩), 1, 16) := by kernel_rfl

theorem OWS.push {w0 w : World} {v : Value} {L : List Bs} (h : OWS w0 v L w) (x : Bs) (ty : TypeId) (hl : L.length ≤ 10000000) :
    ∃ pa n cap W', (Builtin.append_ #[91, 91] ty #[v, .slice (some ⟨w.heap.size, 0, none⟩) 1 1]).run Tryz.prog (w.alloc (.cells #[.string (BT x)] 9)) = .ok (.slice pa n cap) W' ∧ OWS w0 (.slice pa n cap) (L ++ [x]) W' := by
  obtain ⟨i0, hi, hz0, hz1, hz2⟩ := info_parts infoW
  have t8 : Turn Nn w (w.alloc (.cells #[.string (BT x)] 9)) := (Turn.refl Nn w).alloc _
  have h1 := h.turn t8
  have hnew : (w.alloc (.cells #[.string (BT x)] 9)).heap[w.heap.size]? = some (.cells #[.string (BT x)] 9) := World.alloc_heap_new _ _
  obtain ⟨v', W', hrun, hown', hgrow, _, _⟩ := run_append_own_at (P := Tryz.prog) (w.alloc (.cells #[.string (BT x)] 9)) w0.heap.size 91 ty 9 i0 _ 1 16 Tryz.underlying91 hi hz0 hz1 hz2 rfl (by decide) v _ _ h1.own ⟨w.heap.size, 0, none⟩ 1 1 [.string (BT x)] rfl
    (fun j u hj => by
      have hj3 : j < 1 := by
        have := (List.getElem?_eq_some_iff.1 hj).1
        simpa using this
      have : (⟨w.heap.size, 0, none⟩ : Addr).add j = ⟨w.heap.size, j, none⟩ := by unfold Addr.add; split <;> simp_all
      rw [this, cell_blk hnew]
      simpa using hj)
    (fun u hu => by simp at hu; subst hu; rfl) (by simp only [maxLen]; omega) (by omega) h1.low.size
  have hO : OWS w0 v' (L ++ [x]) W' := by
    refine ⟨?_, grown_low h1.low hgrow (fun j e => (h1.own.lt j e).1)⟩
    have e1 : strCellsL (L ++ [x]) = strCellsL L ++ [.string (BT x)] := by unfold strCellsL; simp
    rw [e1, List.length_append]; exact hown'
  obtain ⟨pa, n, cap, rfl⟩ := hO.shape
  exact ⟨pa, n, cap, W', hrun, hO⟩

theorem OWS.str {w0 w : World} {v : Value} {L : List Bs} (h : OWS w0 v L w) : StrSl w v L := by
  rcases h.own.2 with ⟨rfl, h0⟩ | ⟨g, cap, cur, rfl, hb, hg, hn, _, hsz, ht⟩
  · exact .inl ⟨List.eq_nil_of_length_eq_zero h0, none, 0, rfl⟩
  · refine .inr ⟨g, 0, cap, rfl, hn, fun i hi => ?_⟩
    rw [Nat.zero_add, cell_blk hg]
    have e1 : cur[i]? = (cur.toList.take (L.length * 1))[i]? := by
      rw [List.getElem?_take_of_lt (by omega)]; simp
    rw [e1, ht]
    unfold strCellsL
    simp [hi, BT]

theorem cut_mid {l : Bs} {f k : Nat} (h1 : f ≤ k) (h2 : k ≤ l.length) : (BT l).extract f k = BT ((l.drop f).take (k - f)) := by
  unfold BT
  apply ByteArray.ext
  simp only [ByteArray.data_extract, List.extract_toArray]
  first | done | (congr 1; first | done | rw [List.extract_eq_take_drop])

theorem drop_word {l : Bs} {f k : Nat} (h1 : f ≤ k) (h2 : k < l.length) : l.drop f = (l.drop f).take (k - f) ++ l[k] :: l.drop (k + 1) := by
  have e : l[k] :: l.drop (k + 1) = l.drop k := (List.drop_eq_getElem_cons h2).symm
  rw [e]
  have e2 : l.drop k = (l.drop f).drop (k - f) := by rw [List.drop_drop]; congr 1; omega
  rw [e2, List.take_append_drop]

theorem word_no {l : Bs} {f k : Nat} (h2 : k ≤ l.length) (h : ∀ j, f ≤ j → j < k → l[j]? ≠ some 32) : ∀ c ∈ (l.drop f).take (k - f), c ≠ 32 := by
  intro c hc e
  subst e
  obtain ⟨i, hi, hx⟩ := List.mem_iff_getElem.1 hc
  simp only [List.length_take, List.length_drop] at hi
  rw [List.getElem_take, List.getElem_drop] at hx
  exact h (f + i) (by omega) (by omega) (List.getElem?_eq_some_iff.2 ⟨by omega, hx⟩)

set_option maxRecDepth 100000 in
set_option maxHeartbeats 8000000 in
theorem words_any {l : Bs} (hl : l.length ≤ 1000000) (w : World) : Calls Tryz.prog 51 #[.string (BT l)] w fun e w' => ∃ v, e = .returned v ∧ OWS w v (spW l) w' := by
  obtain ⟨M, hM⟩ : ∃ M, BT l = M := ⟨_, rfl⟩
  have hMs : M.size = l.length := by rw [← hM, BT_size]
  have HM := Lib.hid hM
  have HMS := Lib.hid hMs
  have hMl : M.size ≤ 1000000 := by omega
  rw [hM]
  clear hM hMs
  go_enter Tryz.func51, Tryz.ntmps51
  go_wp2_with fail
  go_loopw [3, 4, 5] (fun o f i wr => ∃ (q k : Nat) (L : List Bs), q ≤ k ∧ k ≤ M.size ∧ i = .int .i64 k ∧ f = .int .i64 q ∧ (∃ pa n cap, o = .slice pa n cap ∧ OWS w (.slice pa n cap) L wr) ∧ spW l = L ++ spW (l.drop q) ∧ (∀ j, q ≤ j → j < k → l[j]? ≠ some 32) ∧ L.length ≤ k) (fun _ _ i _ => M.size - (intOf i).toNat)
  case atStart => exact ⟨0, 0, [], by omega, by omega, rfl, rfl, ⟨_, _, _, rfl, OWS.nil (Turn.refl Nn w)⟩, by simp, fun j h1 h2 => by omega, by simp⟩
  case round =>
    obtain ⟨q, k, L, hqk, hk, rfl, rfl, ⟨pa, n, cap, rfl, hO⟩, hsp, hno, hLk⟩ := hrel
    have OW := Lib.hid hO
    have HNO := Lib.hid hno
    have HSP := Lib.hid hsp
    clear hO hno hsp
    by_cases hlt : k < M.size
    · have hkl : k < l.length := by rw [← HMS.out]; exact hlt
      obtain ⟨d, hd⟩ : ∃ d, l[k] = d := ⟨_, rfl⟩
      have hiS : ∀ w, (Instr.index 9 (.string M) (.int .i64 k)).run Tryz.prog w = .ok (.int .u8 (d.toNat : Int)) w := fun w => by
        rw [← HM.out, ← hd]; exact BT_at hkl w
      have HD := Lib.hid (List.getElem?_eq_some_iff.2 ⟨hkl, hd⟩)
      have HDW := Lib.hid (drop_word hqk hkl)
      by_cases c1 : d = 32
      · subst c1
        have h32 : ((32 : UInt8).toNat : Int) = 32 := rfl
        rw [h32] at hiS
        obtain ⟨x, hx⟩ : ∃ x, (l.drop q).take (k - q) = x := ⟨_, rfl⟩
        have hcut : M.extract q k = BT x := by rw [← HM.out, ← hx]; exact cut_mid hqk (by omega)
        have HSP2 : Hid (spW l = (L ++ [x]) ++ spW (l.drop (k + 1))) := Lib.hid (by
          have h1 := HDW.out
          rw [hd, hx] at h1
          rw [HSP.out, h1, spW_word x _ (by rw [← hx]; exact word_no (by omega) HNO.out)]
          simp)
        obtain ⟨pb, nb, cb, w5, hrun, hO⟩ := OW.out.push x 91 (by omega)
        have HR := Lib.hid hrun
        have OW2 := Lib.hid hO
        clear hrun hO hx hd HDW h32
        clear hkl
        go_wp2_with (at_builtin; refine wpList_append_eq rfl _ _ 91 rfl _ _ rfl rfl HR.out ?_)
        go_roundw
        case rel => exact ⟨k + 1, k + 1, L ++ [x], by omega, by omega, by go_num, by go_num, ⟨_, _, _, rfl, OW2.out⟩, HSP2.out, fun j h1 h2 => by omega, by simp; omega⟩
        case measure => simp [intOf]; omega
      · have h32 : ((d.toNat : Int) == 32) = false := by
          rw [beq_eq_false_iff_ne]
          intro e
          apply c1
          apply UInt8.toNat_inj.1
          have h48 : (32 : UInt8).toNat = 32 := rfl
          omega
        have HNO2 : Hid (∀ j, q ≤ j → j < k + 1 → l[j]? ≠ some 32) := Lib.hid (by
          intro j h1 h2
          by_cases hj : j = k
          · subst hj; rw [HD.out]; intro e; exact c1 (Option.some.inj e)
          · exact HNO.out j h1 (by omega))
        clear hd HDW c1
        clear hkl
        go_wp2_with fail
        go_roundw
        case rel => exact ⟨q, k + 1, L, by omega, by omega, by go_num, rfl, ⟨_, _, _, rfl, OW.out⟩, HSP.out, HNO2.out, by omega⟩
        case measure => simp [intOf]; omega
    · have hkM : k = l.length := by rw [← HMS.out]; omega
      obtain ⟨x, hx⟩ : ∃ x, l.drop q = x := ⟨_, rfl⟩
      have hcut : M.extract q M.size = BT x := by
        rw [← HM.out, BT_size, ← hx, cut_mid (by omega) (Nat.le_refl _)]
        rw [List.take_of_length_le (by simp)]
      have HSP2 : Hid (spW l = L ++ [x]) := Lib.hid (by
        rw [HSP.out, hx, spW_last]
        intro c hc
        have h1 := word_no (l := l) (f := q) (k := k) (by omega) HNO.out
        rw [List.take_of_length_le (by simp; omega), hx] at h1
        exact h1 c hc)
      obtain ⟨pb, nb, cb, w5, hrun, hO⟩ := OW.out.push x 91 (by omega)
      have HR := Lib.hid hrun
      have OW2 := Lib.hid hO
      clear hrun hO hx hkM
      go_wp2_with (at_builtin; refine wpList_append_eq rfl _ _ 91 rfl _ _ rfl rfl HR.out ?_)
      go_ret
      exact ⟨_, rfl, by rw [HSP2.out]; exact OW2.out⟩


def refNums (L : List Bs) (n : Nat) : Option (List Nat) := if L.length = n + 1 then numsL (L.drop 1) else none
def RNP (w : World) (L : List Bs) (n : Nat) (e : Ending) (w' : World) : Prop :=
  (∃ pa m cap, e = .returned (.tuple #[.slice pa m cap, .bool (refNums L n).isSome]) ∧ (∀ N, refNums L n = some N → w'.ownsRow w.heap.size 3 1 (.slice pa m cap) N.length (N.map natV))) ∧ Turn Nn w w'

theorem RNP.no {w w' : World} {L : List Bs} {n : Nat} (h : refNums L n = none) (t : Turn Nn w w') : RNP w L n (.returned (.tuple #[.slice none 0 0, .bool false])) w' :=
  ⟨⟨none, 0, 0, by rw [h]; rfl, fun N hN => by rw [h] at hN; cases hN⟩, t⟩

theorem numI_some {l : Bs} {n : Nat} (h : numL l = some n) : numI l = (n : Int) := by unfold numI; rw [h]
theorem numI_none {l : Bs} (h : numL l = none) : numI l = -1 := by unfold numI; rw [h]
theorem numL_lt {l : Bs} {n : Nat} (h : numL l = some n) : n < 1000000000 := (numL_some.1 h).2

set_option maxRecDepth 100000 in
set_option maxHeartbeats 8000000 in
theorem refNumbers_any {v : Value} {L : List Bs} {n : Nat} {w : World} (hv : StrSl w v L) (hL : L.length ≤ 1000000) (hn : n ≤ 100) (hs : ∀ i, i < L.length → (L[i]?.getD []).length ≤ 1000000) :
    Calls Tryz.prog 71 #[v, .int .i64 n] w (RNP w L n) := by
  obtain ⟨M, hM⟩ : ∃ M, L.length = M := ⟨_, rfl⟩
  obtain ⟨pa, cap, hsh⟩ : ∃ pa cap, v = .slice pa M cap := by
    rcases hv with ⟨rfl, pa, cap, rfl⟩ | ⟨b, o, cap, rfl, _, _⟩
    · exact ⟨pa, cap, by rw [← hM]; rfl⟩
    · exact ⟨_, _, by rw [← hM]⟩
  subst hsh
  by_cases hMn : M = n + 1
  · subst hMn
    obtain ⟨b, o, cap', hvv, hcap, hc⟩ := hv.resolve_left (fun h => by rw [h.1] at hM; simp at hM)
    simp only [Value.slice.injEq] at hvv
    obtain ⟨rfl, hmid, rfl⟩ := hvv
    clear hmid
    obtain ⟨x, R, rfl⟩ : ∃ x R, L = x :: R := by
      cases L with
      | nil => simp at hM
      | cons x R => exact ⟨x, R, rfl⟩
    have hR : R.length = n := by simpa using hM
    have hRN : refNums (x :: R) n = numsL R := by unfold refNums; rw [if_pos hM]; rfl
    have hc2 : ∀ i, i < n → w.cell? ⟨b, o + (i + 1), none⟩ = some (.string ⟨(R[i]?.getD []).toArray⟩) := fun i hi => by
      have := hc (i + 1) (by rw [hM]; omega)
      rw [List.getElem?_cons_succ] at this
      exact this
    have hs2 : ∀ i, i < n → (R[i]?.getD []).length ≤ 1000000 := fun i hi => by
      have := hs (i + 1) (by rw [hM]; omega)
      rw [List.getElem?_cons_succ] at this
      exact this
    rw [hM] at hcap
    obtain ⟨i0, hi, hz⟩ := Option.map_eq_some_iff.1 infoI
    simp only [Prod.mk.injEq] at hz
    obtain ⟨hz0, hz1, hz2⟩ := hz
    have HC := Lib.hid hc2
    have HS := Lib.hid hs2
    have HR := Lib.hid hR
    have HRN := Lib.hid hRN
    clear hc hs hM hc2 hs2 hR hRN hv hL
    go_enter Tryz.func71, Tryz.ntmps71
    go_wp2_with fail
    go_loopw [6, 7] (fun v i wr => ∃ (k : Nat) (N : List Nat), k ≤ n ∧ i = .int .i64 ((k : Int) + 1) ∧ numsL (R.take k) = some N ∧ N.length = k ∧ (∃ pq nq cq, v = .slice pq nq cq) ∧ wr.ownsRow w.heap.size 3 1 v N.length (N.map natV) ∧ Turn Nn w wr) (fun _ i _ => n + 1 - (intOf i).toNat)
    case atStart => exact ⟨0, [], by omega, rfl, rfl, rfl, ⟨_, _, _, rfl⟩, World.ownsRow_nil w _ 3 1, Turn.refl _ _⟩
    case round =>
      obtain ⟨k, N, hk, rfl, hN, hNk, ⟨pq, nq, cq, rfl⟩, hown, ht⟩ := hrel
      by_cases hlt : k < n
      · have hcell := cell_turn ht (HC.out k hlt)
        have hsk := HS.out k hlt
        have ho2 : ((o : Int) + ((k : Int) + 1)) = ((o + (k + 1) : Nat) : Int) := by omega
        cases hnn : numL (R[k]?.getD []) with
        | none =>
          have HNO := Lib.hid (numsL_stop hN (by rw [HR.out]; exact hlt) hnn)
          have HCc := Lib.hid (refNumber_any (l := R[k]?.getD []) (by omega) wr)
          rw [numI_none hnn] at HCc
          have HT := Lib.hid ht
          obtain ⟨T, hT⟩ : ∃ T : ByteArray, ⟨(R[k]?.getD []).toArray⟩ = T := ⟨_, rfl⟩
          rw [hT] at hcell
          have HCd : Hid (Calls Tryz.prog 87 #[.string T] wr fun e w' => e = .returned (.int .i64 (-1)) ∧ w' = wr) := Lib.hid (by have := HCc.out; unfold BT at this; rw [hT] at this; exact this)
          clear hnn hN hNk hown ht hsk hT HC HS HCc
          go_wp2_with fail
          refine HCd.out.mono ?_
          rintro e w1 ⟨rfl, rfl⟩
          go_wp2_with fail
          go_ret2
          exact RNP.no (by rw [HRN.out]; exact HNO.out) HT.out
        | some m =>
          have HST := Lib.hid (numsL_step hN (by rw [HR.out]; exact hlt) hnn)
          have HCc := Lib.hid (refNumber_any (l := R[k]?.getD []) (by omega) wr)
          rw [numI_some hnn] at HCc
          have HT := Lib.hid ht
          have HOWN := Lib.hid hown
          have HNK := Lib.hid hNk
          obtain ⟨T, hT⟩ : ∃ T : ByteArray, ⟨(R[k]?.getD []).toArray⟩ = T := ⟨_, rfl⟩
          rw [hT] at hcell
          have HCd : Hid (Calls Tryz.prog 87 #[.string T] wr fun e w' => e = .returned (.int .i64 (m : Int)) ∧ w' = wr) := Lib.hid (by have := HCc.out; unfold BT at this; rw [hT] at this; exact this)
          clear hnn hN hNk hown ht hsk hT HC HS HCc
          go_wp2_with fail
          refine HCd.out.mono ?_
          rintro e w1 ⟨rfl, rfl⟩
          have hown1 := HOWN.out
          have hsz := HT.out.size
          go_wp2_with (at_builtin; refine wpList_append_own _ rfl _ _ 104 rfl w.heap.size 3 i0 (.int .i64 0) 1 8 Tryz.underlying104 hi hz0 hz1 hz2 rfl (by decide) _ _ _ rfl (hown1.alloc _) ⟨w1.heap.size, 0, none⟩ 1 1 [.int .i64 m] rfl rfl ?c1 ?c2 ?c3 ?c4 ?c5 ?_)
          case c1 =>
            intro j u hj
            match j, hj with
            | 0, hj => simp at hj; subst hj; simp [Addr.add]
          case c2 => intro u hu; simp at hu; subst hu; rfl
          case c3 => have := HNK.out; unfold maxLen; omega
          case c4 => have := HNK.out; omega
          case c5 => simp; omega
          intro v' w2 hown' hgrow _
          have HT2 := Lib.hid ((HT.out.alloc _).grown hgrow (fun q hq => (hown1.lt q hq).1))
          obtain ⟨px, nx, cx, rfl⟩ : ∃ px nx cx, v' = .slice px nx cx := by
            rcases hown'.2 with ⟨e, _⟩ | ⟨_, _, _, e, _⟩
            · exact ⟨_, _, _, e⟩
            · exact ⟨_, _, _, e⟩
          have HO2 := Lib.hid hown'
          clear hown' hgrow hown1 hsz
          go_wp2
          go_roundw
          case rel =>
            refine ⟨k + 1, N ++ [m], by omega, by go_num, HST.out, by have := HNK.out; simp; omega, ⟨_, _, _, rfl⟩, ?_, HT2.out⟩
            have := HO2.out
            rw [List.length_append, List.map_append]
            exact this
          case measure => simp [intOf]; omega
      · have hkM : k = n := by omega
        subst hkM
        have hd : numsL R = some N := by rw [← hN, List.take_of_length_le (by rw [HR.out]; exact Nat.le_refl _)]
        have HD := Lib.hid hd
        have HT := Lib.hid ht
        have HOWN := Lib.hid hown
        clear hd hN hNk hown ht HC HS
        go_wp2
        go_ret2
        exact ⟨⟨_, _, _, by rw [HRN.out, HD.out]; rfl, fun N' hN' => by rw [HRN.out, HD.out] at hN'; cases hN'; exact HOWN.out⟩, HT.out⟩
  · have hR : refNums L n = none := by unfold refNums; rw [hM, if_neg hMn]
    have HR := Lib.hid hR
    have hne : decide ((M : Int) = (n : Int) + 1) = false := decide_eq_false (by omega)
    have hne2 : ((M : Int) == (n : Int) + 1) = false := by rw [beq_eq_false_iff_ne]; omega
    rw [hM] at hL
    clear hv hs hM hR hMn
    go_enter Tryz.func71, Tryz.ntmps71
    go_wp2_with fail
    go_ret2
    exact RNP.no HR.out (Turn.refl Nn w)


def unhexR (l : Bs) : Option Bs := if l.length < 2 ∨ 48 < l.length ∨ l.length % 2 = 1 then none else unhexL l
def UXP (w : World) (l : Bs) (e : Ending) (w' : World) : Prop := e = .returned (.tuple #[.string (BT ((unhexR l).getD [])), .bool (unhexR l).isSome]) ∧ Turn Nn w w'
theorem UXP.no {w w' : World} {l : Bs} (h : unhexR l = none) (t : Turn Nn w w') : UXP w l (.returned (.tuple #[.string ⟨#[]⟩, .bool false])) w' := ⟨by rw [h]; rfl, t⟩
theorem halfI_some {c : UInt8} {n : Nat} (h : half c = some n) : halfI c = (n : Int) := by unfold halfI; rw [h]
theorem halfI_none {c : UInt8} (h : half c = none) : halfI c = -1 := by unfold halfI; rw [h]
set_option maxRecDepth 100000 in
set_option maxHeartbeats 8000000 in
theorem unhex_any {l : Bs} (hl : l.length ≤ 1000000) (w : World) : Calls Tryz.prog 73 #[.string (BT l)] w (UXP w l) := by
  obtain ⟨M, hM⟩ : ∃ M, BT l = M := ⟨_, rfl⟩
  have hMs : M.size = l.length := by rw [← hM, BT_size]
  have HM := Lib.hid hM
  have HMS := Lib.hid hMs
  have hMl : M.size ≤ 1000000 := by omega
  rw [hM]
  by_cases h1 : l.length < 2
  · have HU := Lib.hid (show unhexR l = none by unfold unhexR; rw [if_pos (.inl h1)])
    have h2 : M.size < 2 := by omega
    clear hM hMs h1 hl
    go_enter Tryz.func73, Tryz.ntmps73
    go_wp2_with fail
    go_ret2
    exact UXP.no HU.out (Turn.refl Nn w)
  by_cases h2 : 48 < l.length
  · have HU := Lib.hid (show unhexR l = none by unfold unhexR; rw [if_pos (.inr (.inl h2))])
    have h3 : 48 < M.size := by omega
    clear hM hMs h1 hl h2
    go_enter Tryz.func73, Tryz.ntmps73
    go_wp2_with fail
    go_ret2
    exact UXP.no HU.out (Turn.refl Nn w)
  have h3 : 2 ≤ M.size := by omega
  have h4 : M.size ≤ 48 := by omega
  by_cases h5 : l.length % 2 = 1
  · have HU := Lib.hid (show unhexR l = none by unfold unhexR; rw [if_pos (.inr (.inr h5))])
    have h6 : (M.size : Int) % 2 = 1 := by omega
    have h7 : (M.size : Int).tmod 2 = 1 := by rw [Int.tmod_eq_emod_of_nonneg (by omega)]; exact h6
    clear hM hMs h1 hl h2 h5
    go_enter Tryz.func73, Tryz.ntmps73
    go_wp2_with fail
    go_ret2
    exact UXP.no HU.out (Turn.refl Nn w)
  · have HU := Lib.hid (show unhexR l = unhexL l by unfold unhexR; rw [if_neg (by omega)])
    have h6 : (M.size : Int) % 2 = 0 := by omega
    have h7 : (M.size : Int).tmod 2 = 0 := by rw [Int.tmod_eq_emod_of_nonneg (by omega)]; exact h6
    have HEV : Hid (M.size % 2 = 0) := Lib.hid (by omega)
    clear hM hMs h1 hl h2 h5
    go_enter Tryz.func73, Tryz.ntmps73
    go_wp2_with fail
    clear h6 h7
    go_loopw [4, 5] (fun o i wr => ∃ (k : Nat) (B : Bs), 2 * k ≤ M.size ∧ i = .int .i64 (2 * (k : Int)) ∧ unhexL (l.take (2 * k)) = some B ∧ B.length = k ∧ ∃ pa n cap, o = .slice pa n cap ∧ OBS w (.slice pa n cap) B wr) (fun _ i _ => M.size - (intOf i).toNat)
    case atStart => exact ⟨0, [], by omega, rfl, rfl, rfl, _, _, _, rfl, OBS.nil (Turn.refl Nn w)⟩
    case round =>
      obtain ⟨k, B, hk, rfl, hB, hBk, pa, n, cap, rfl, hO⟩ := hrel
      have OQ := Lib.hid hO
      by_cases hlt : 2 * k < M.size
      · have hk2 : 2 * k + 1 < M.size := by have := HEV.out; omega
        have hkl : 2 * k + 1 < l.length := by rw [← HMS.out]; exact hk2
        obtain ⟨c, hc⟩ : ∃ c, l[2 * k]'(by omega) = c := ⟨_, rfl⟩
        obtain ⟨d, hd⟩ : ∃ d, l[2 * k + 1] = d := ⟨_, rfl⟩
        have hiC : ∀ w, (Instr.index 9 (.string M) (.int .i64 (2 * (k : Int)))).run Tryz.prog w = .ok (.int .u8 (c.toNat : Int)) w := fun w => by
          rw [← HM.out, ← hc]
          have := BT_at (s := l) (k := 2 * k) (by omega) w
          rw [show ((2 * k : Nat) : Int) = 2 * (k : Int) by omega] at this
          exact this
        have hiD : ∀ w, (Instr.index 9 (.string M) (.int .i64 (2 * (k : Int) + 1))).run Tryz.prog w = .ok (.int .u8 (d.toNat : Int)) w := fun w => by
          rw [← HM.out, ← hd]
          have := BT_at (s := l) (k := 2 * k + 1) hkl w
          rw [show ((2 * k + 1 : Nat) : Int) = 2 * (k : Int) + 1 by omega] at this
          exact this
        have z4 : IntKind.i64.wrap (2 * (k : Int) + 1) = 2 * (k : Int) + 1 := IntWalk.i64_in _ (by omega)
        have HC := Lib.hid (fun W => half_any c W)
        have HD := Lib.hid (fun W => half_any d W)
        have hST := fun h => unhexL_stop hB hkl h
        have hSS := fun a b ha hb => unhexL_step (a := a) (b := b) hB hkl ha hb
        rw [hc, hd] at hST
        rw [hc, hd] at hSS
        have HST := Lib.hid hST
        have HSS := Lib.hid hSS
        have HBK := Lib.hid hBk
        obtain ⟨x, hx⟩ : ∃ x, halfI c = x := ⟨_, rfl⟩
        obtain ⟨y, hy⟩ : ∃ y, halfI d = y := ⟨_, rfl⟩
        rw [hx] at HC
        rw [hy] at HD
        obtain ⟨c', hc'⟩ : ∃ c' : Nat, c.toNat = c' := ⟨_, rfl⟩
        obtain ⟨d', hd'⟩ : ∃ d' : Nat, d.toNat = d' := ⟨_, rfl⟩
        rw [hc'] at HC hiC
        rw [hd'] at HD hiD
        have HXC := Lib.hid hx
        have HYD := Lib.hid hy
        have hx1 := halfI_lt c
        have hy1 := halfI_lt d
        rw [hx] at hx1
        rw [hy] at hy1
        clear hST hSS hc hd hkl hB hBk hO hx hy hc' hd'
        go_wp2_with fail
        refine held_begin (fun _ => True) (by kernel_rfl) ?_
        generalize hwd : World.drew wr = wd
        have OD : Hid (OBS w (.slice pa n cap) B wd) := Lib.hid (by rw [← hwd]; exact OQ.out.turn ((Turn.refl Nn wr).drew))
        clear hwd
        refine held_take 0 ?_ rfl (by kernel_rfl) (by kernel_rfl) (by kernel_rfl) (fun _ _ _ h => h) (Or.inl ⟨by kernel_rfl, ?_⟩) trivial ?_
        rotate_left 1
        · intro u hu; clear hu; go_simp; first | done | with_reducible rfl
        try simp only [Act.put, List.getElem_toArray, List.getElem_cons_succ, List.getElem_cons_zero, List.setIfInBounds_toArray, List.set_cons_succ, List.set_cons_zero]
        refine held_take 1 ?_ rfl (by kernel_rfl) (by kernel_rfl) (by kernel_rfl) (fun _ _ _ h => h) (Or.inl ⟨by kernel_rfl, ?_⟩) trivial ?_
        rotate_left 1
        · intro u hu; clear hu; go_simp; first | done | with_reducible rfl
        try simp only [Act.put, List.getElem_toArray, List.getElem_cons_succ, List.getElem_cons_zero, List.setIfInBounds_toArray, List.set_cons_succ, List.set_cons_zero]
        refine held_take 2 ?_ rfl (by kernel_rfl) (by kernel_rfl) (by kernel_rfl) (fun _ _ _ h => h) (Or.inl ⟨by kernel_rfl, ?_⟩) trivial ?_
        rotate_left 1
        · intro u hu; clear hu; go_simp; first | done | with_reducible rfl
        try simp only [Act.put, List.getElem_toArray, List.getElem_cons_succ, List.getElem_cons_zero, List.setIfInBounds_toArray, List.set_cons_succ, List.set_cons_zero]
        refine held_take 4 ?_ rfl (by kernel_rfl) (by kernel_rfl) (by kernel_rfl) (fun _ _ _ h => h) (Or.inl ⟨by kernel_rfl, ?_⟩) trivial ?_
        rotate_left 1
        · intro u hu; clear hu; go_simp; first | done | with_reducible rfl
        try simp only [Act.put, List.getElem_toArray, List.getElem_cons_succ, List.getElem_cons_zero, List.setIfInBounds_toArray, List.set_cons_succ, List.set_cons_zero]
        refine held_take 5 ?_ rfl (by kernel_rfl) (by kernel_rfl) (by kernel_rfl) (fun _ _ _ h => h) (Or.inl ⟨by kernel_rfl, ?_⟩) trivial ?_
        rotate_left 1
        · intro u hu; clear hu; go_simp; first | done | with_reducible rfl
        try simp only [Act.put, List.getElem_toArray, List.getElem_cons_succ, List.getElem_cons_zero, List.setIfInBounds_toArray, List.set_cons_succ, List.set_cons_zero]
        refine held_take 6 ?_ rfl (by kernel_rfl) (by kernel_rfl) (by kernel_rfl) (fun _ _ _ h => h) (Or.inl ⟨by kernel_rfl, ?_⟩) trivial ?_
        rotate_left 1
        · intro u hu; clear hu; go_simp; first | done | with_reducible rfl
        try simp only [Act.put, List.getElem_toArray, List.getElem_cons_succ, List.getElem_cons_zero, List.setIfInBounds_toArray, List.set_cons_succ, List.set_cons_zero]
        refine held_take 7 ?_ rfl (by kernel_rfl) (by kernel_rfl) (by kernel_rfl) (fun _ _ _ h => h) (Or.inl ⟨by kernel_rfl, ?_⟩) trivial ?_
        rotate_left 1
        · intro u hu; clear hu; go_simp; first | done | with_reducible rfl
        try simp only [Act.put, List.getElem_toArray, List.getElem_cons_succ, List.getElem_cons_zero, List.setIfInBounds_toArray, List.set_cons_succ, List.set_cons_zero]
        refine held_one 3 (by kernel_rfl) rfl (by kernel_rfl) (fun K hK => ?_)
        go_simp
        refine (HC.out _).mono ?_
        rintro e w9 ⟨rfl, rfl⟩
        refine hK _ _ trivial ?_
        clear hK K
        try simp only [Act.put, List.getElem_toArray, List.getElem_cons_succ, List.getElem_cons_zero, List.setIfInBounds_toArray, List.set_cons_succ, List.set_cons_zero]
        refine held_one 8 (by kernel_rfl) rfl (by kernel_rfl) (fun K hK => ?_)
        go_simp
        refine (HD.out _).mono ?_
        rintro e w9 ⟨rfl, rfl⟩
        refine hK _ _ trivial ?_
        clear hK K
        try simp only [Act.put, List.getElem_toArray, List.getElem_cons_succ, List.getElem_cons_zero, List.setIfInBounds_toArray, List.set_cons_succ, List.set_cons_zero]
        refine held_take 9 ?_ rfl (by kernel_rfl) (by kernel_rfl) (by kernel_rfl) (fun _ _ _ h => h) (Or.inl ⟨by kernel_rfl, ?_⟩) trivial ?_
        rotate_left 1
        · intro u hu; clear hu; go_simp; first | done | with_reducible rfl
        try simp only [Act.put, List.getElem_toArray, List.getElem_cons_succ, List.getElem_cons_zero, List.setIfInBounds_toArray, List.set_cons_succ, List.set_cons_zero]
        refine held_take 10 ?_ rfl (by kernel_rfl) (by kernel_rfl) (by kernel_rfl) (fun _ _ _ h => h) (Or.inl ⟨by kernel_rfl, ?_⟩) trivial ?_
        rotate_left 1
        · intro u hu; clear hu; go_simp; first | done | with_reducible rfl
        try simp only [Act.put, List.getElem_toArray, List.getElem_cons_succ, List.getElem_cons_zero, List.setIfInBounds_toArray, List.set_cons_succ, List.set_cons_zero]
        refine wpAnyH_done (by kernel_rfl) ?_ _
        clear hiC hiD z4
        by_cases n1 : x < 0
        · have HN : Hid (unhexR l = none) := Lib.hid (by
            rw [HU.out]
            refine HST.out (.inl ?_)
            cases hh : half c with
            | none => rfl
            | some m => have := HXC.out; rw [halfI_some hh] at this; omega)
          go_wp2_with fail
          go_ret2
          exact UXP.no HN.out OD.out.low
        by_cases n2 : y < 0
        · have HN : Hid (unhexR l = none) := Lib.hid (by
            rw [HU.out]
            refine HST.out (.inr ?_)
            cases hh : half d with
            | none => rfl
            | some m => have := HYD.out; rw [halfI_some hh] at this; omega)
          go_wp2_with fail
          go_ret2
          exact UXP.no HN.out OD.out.low
        · obtain ⟨a, rfl⟩ : ∃ a : Nat, x = a := ⟨x.toNat, by omega⟩
          obtain ⟨b, rfl⟩ : ∃ b : Nat, y = b := ⟨y.toNat, by omega⟩
          have ha : half c = some a := by
            cases hh : half c with
            | none => have := HXC.out; rw [halfI_none hh] at this; omega
            | some m => have := HXC.out; rw [halfI_some hh] at this; congr 1; omega
          have hb : half d = some b := by
            cases hh : half d with
            | none => have := HYD.out; rw [halfI_none hh] at this; omega
            | some m => have := HYD.out; rw [halfI_some hh] at this; congr 1; omega
          have HSS2 := Lib.hid (HSS.out a b ha hb)
          have hal : a ≤ 15 := by omega
          have hbl : b ≤ 15 := by omega
          have hz : (16 * (a : Int) + (b : Int)) = ((UInt8.ofNat (16 * a + b)).toNat : Int) := by
            rw [UInt8.toNat_ofNat']; omega
          obtain ⟨pb, nb, cb, w5, hrun, hO⟩ := OD.out.byte (UInt8.ofNat (16 * a + b)) (16 * (a : Int) + (b : Int)) hz 28 (by have := HBK.out; omega)
          have HR := Lib.hid hrun
          have O5 := Lib.hid hO
          clear hrun hO hz ha hb n1 n2 hx1 hy1
          go_wp2_with (at_builtin; refine wpList_append_eq rfl _ _ 28 rfl _ _ rfl rfl HR.out ?_)
          go_roundw
          case rel => exact ⟨k + 1, B ++ [UInt8.ofNat (16 * a + b)], by omega, by go_num, HSS2.out, by have := HBK.out; simp; omega, _, _, _, rfl, O5.out⟩
          case measure => simp [intOf]; omega
      · have hkl : l.take (2 * k) = l := List.take_of_length_le (by rw [← HMS.out]; omega)
        rw [hkl] at hB
        have HUB : Hid (unhexR l = some B) := Lib.hid (by rw [HU.out]; exact hB)
        have hcv := OQ.out.conv
        clear hB hBk hO hkl
        go_wp2_with fail
        go_ret2
        exact ⟨by rw [HUB.out]; rfl, OQ.out.low⟩


theorem numsL_length : ∀ {L : List Bs} {N : List Nat}, numsL L = some N → N.length = L.length
  | [], N, h => by simp [numsL] at h; subst h; rfl
  | x :: r, N, h => by
    unfold numsL at h
    split at h
    · cases h
    · cases hr : numsL r with
      | none => rw [hr] at h; cases h
      | some m =>
        rw [hr] at h
        simp only [Option.map_some, Option.some.injEq] at h
        subst h
        simp [numsL_length hr]

/-- What the document's first line answers. -/
def MP (w : World) (L : List Bs) (e : Ending) (w' : World) : Prop :=
  (match machineS zeroS L with
    | .error c => e = .returned (.tuple #[.agg sZero, .int .i64 c])
    | .ok s => e = .returned (.tuple #[.agg (scriptA s (.slice none 0 0)), .int .i64 0]) ∧ s.turns = []) ∧ Turn Nn w w'
theorem MP.err {w w' : World} {L : List Bs} {c : Int} (h : machineS zeroS L = .error c) (t : Turn Nn w w') : MP w L (.returned (.tuple #[.agg sZero, .int .i64 c])) w' := ⟨by rw [h], t⟩
theorem MP.good {w w' : World} {L : List Bs} {s : ScriptD} (h : machineS zeroS L = .ok s) (hs : s.turns = []) (t : Turn Nn w w') : MP w L (.returned (.tuple #[.agg (scriptA s (.slice none 0 0)), .int .i64 0])) w' := ⟨by rw [h]; exact ⟨rfl, hs⟩, t⟩

theorem mach_res {W : World} {B : Nat} {tmps : Array Value} {c0 c1 c2 c3 c4 c5 : Value} {z : Int} (h2 : tmps[2]?.getD undef = .pointer (some ⟨B, 0, none⟩)) (h3 : tmps[3]?.getD undef = .int .i64 z) (hb : W.heap[B]? = some (.cells #[c0, c1, c2, c3, c4, c5] 26)) :
    (results Tryz.f52 tmps).run Tryz.prog W = .ok (.tuple #[.agg #[c0, c1, c2, c3, c4, c5], .int .i64 z]) W := by
  obtain ⟨d0, d1, d2, d3, d4, d5⟩ := cells6 hb
  simp only [results, show Tryz.f52.results = #[.cell 2 26, .tmp 3] from rfl]
  go_simp

def zeroCells (tw : Bool) : Array Value := #[.int .i64 0, .int .i64 0, .int .i64 0, .bool tw, .string ⟨#[]⟩, .slice none 0 0]

theorem six_turn {w W : World} {B : Nat} (t : Turn Nn w W) (hB : w.heap.size ≤ B) (y0 y1 y2 y3 y4 y5 : Value) : Turn Nn w ((((((W.setCell ⟨B, 0, none⟩ y0).setCell ⟨B, 1, none⟩ y1).setCell ⟨B, 2, none⟩ y2).setCell ⟨B, 3, none⟩ y3).setCell ⟨B, 4, none⟩ y4).setCell ⟨B, 5, none⟩ y5) :=
  (((((t.setCell (.inr hB) _).setCell (.inr hB) _).setCell (.inr hB) _).setCell (.inr hB) _).setCell (.inr hB) _).setCell (.inr hB) _
theorem three_blk {w : World} {r : Nat} {c0 c1 c2 c3 c4 c5 : Value} {t : TypeId} (h : w.heap[r]? = some (.cells #[c0, c1, c2, c3, c4, c5] t)) (a b c : Value) :
    (((w.setCell ⟨r, 0, none⟩ a).setCell ⟨r, 1, none⟩ b).setCell ⟨r, 2, none⟩ c).drew.heap[r]? = some (.cells #[a, b, c, c3, c4, c5] t) :=
  heap_setCell_at (heap_setCell_at (heap_setCell_at h 0 _) 1 _) 2 _
theorem three_oth {w : World} {r b : Nat} {ob : Obj} (h : w.heap[b]? = some ob) (hne : b ≠ r) (x y z : Value) :
    (((w.setCell ⟨r, 0, none⟩ x).setCell ⟨r, 1, none⟩ y).setCell ⟨r, 2, none⟩ z).drew.heap[b]? = some ob := blk_set (blk_set (blk_set h hne) hne) hne
theorem three_turn {w W : World} {B : Nat} (t : Turn Nn w W) (hB : w.heap.size ≤ B) (x y z : Value) : Turn Nn w (((W.setCell ⟨B, 0, none⟩ x).setCell ⟨B, 1, none⟩ y).setCell ⟨B, 2, none⟩ z).drew :=
  (((t.setCell (.inr hB) _).setCell (.inr hB) _).setCell (.inr hB) _).drew

set_option maxRecDepth 100000 in
set_option maxHeartbeats 8000000 in
theorem refMachine_tw {L : List Bs} {b o cap : Nat} {w : World} (hc : ∀ i, i < L.length → w.cell? ⟨b, o + i, none⟩ = some (.string ⟨(L[i]?.getD []).toArray⟩)) (hcap : L.length ≤ cap) (hL : L.length ≤ 1000000) (hs : ∀ i, i < L.length → (L[i]?.getD []).length ≤ 1000000) (h5 : L.length = 5) (h4 : L[4]? = some wTwin) :
    Calls Tryz.prog 52 #[.slice (some ⟨b, o, none⟩) 5 cap] w (MP w L) := by
  obtain ⟨w1, hw1⟩ : ∃ w1, (w.alloc (.cells (zeroCells false) 26)).alloc (.cells (zeroCells false) 26) = w1 := ⟨_, rfl⟩
  obtain ⟨r1, x1, t1⟩ := alloc2 hw1
  have hbl : b < w.heap.size := World.block_lt_of_cell? w _ (hc 0 (by omega))
  have htw : decide (L.length = 5 ∧ L[4]? = some wTwin) = true := by rw [decide_eq_true_iff]; exact ⟨h5, h4⟩
  obtain ⟨k, A, hkA⟩ : ∃ k A, L.take 4 = k :: A := by
    cases h : L.take 4 with
    | nil => have := congrArg List.length h; rw [List.length_take, h5] at this; cases this
    | cons k A => exact ⟨k, A, rfl⟩
  have HF := Lib.hid (mform (s := zeroS) (k := k) (A := A) htw (by rw [if_pos rfl]; exact hkA))
  have hl4 : (k :: A).length = 4 := by rw [← hkA]; simp; omega
  have hgt : ∀ i, i < 4 → (k :: A)[i]?.getD [] = L[i]?.getD [] := fun i hi => by rw [← hkA, List.getElem?_take_of_lt hi]
  have SLW : StrSl w (.slice (some ⟨b, o, none⟩) 4 cap) (k :: A) := .inr ⟨b, o, cap, by rw [hl4], by omega, fun i hi => by rw [hgt i (by omega)]; exact hc i (by omega)⟩
  have HSS : Hid (∀ i, i < (k :: A).length → ((k :: A)[i]?.getD []).length ≤ 1000000) := Lib.hid (fun i hi => by rw [hgt i (by omega)]; exact hs i (by omega))
  have HLA : Hid (A.length + 1 ≤ 1000000) := Lib.hid (by simp at hl4; omega)
  have k4 : w1.cell? ⟨b, o + 4, none⟩ = some (.string ⟨#[116, 119, 105, 110]⟩) := by rw [cell_turn t1 (hc 4 (by omega)), h4]; rfl
  simp only [zeroCells] at r1 x1 hw1
  obtain ⟨_, _, _, k3, _, _⟩ := cells6 x1
  have f3 := frozen_blk (o := 3) x1
  have SLX : Hid (StrSl (w1.setCell ⟨w.heap.size + 1, 3, none⟩ (.bool true)) (.slice (some ⟨b, o, none⟩) 4 cap) (k :: A)) := Lib.hid ((SLW.turn t1).cells (fun i => World.cell?_setCell_other _ _ _ _ (fun e => by have : w.heap.size + 1 = b := congrArg Addr.block e; omega)))
  have BXX := Lib.hid (heap_setCell_at x1 3 (.bool true))
  have BRX := Lib.hid (blk_set (b := w.heap.size + 1) (o := 3) (x := .bool true) r1 (by omega))
  have TXX := Lib.hid (t1.setCell (p := ⟨w.heap.size + 1, 3, none⟩) (.inr (Nat.le_succ _)) (.bool true))
  have HBL := Lib.hid hbl
  have hc5 : 5 ≤ cap := by omega
  clear hc hcap hL hs h5 h4 htw hkA hl4 hgt SLW r1 x1 t1 hbl
  go_enter Tryz.func52, Tryz.ntmps52
  go_upto_region 5 with (fail)
  generalize hW : World.setCell w1 _ _ = wx
  have SL : Hid (StrSl wx (.slice (some ⟨b, o, none⟩) 4 cap) (k :: A)) := by rw [← hW]; exact SLX
  have BX : Hid (wx.heap[w.heap.size + 1]? = some (.cells #[.int .i64 0, .int .i64 0, .int .i64 0, .bool true, .string ⟨#[]⟩, .slice none 0 0] 26)) := by rw [← hW]; exact BXX
  have BR : Hid (wx.heap[w.heap.size]? = some (.cells #[.int .i64 0, .int .i64 0, .int .i64 0, .bool false, .string ⟨#[]⟩, .slice none 0 0] 26)) := by rw [← hW]; exact BRX
  have TX : Hid (Turn Nn w wx) := by rw [← hW]; exact TXX
  clear hW hw1 k3 f3 k4 SLX BXX BRX TXX
  go_wp2_with fail
  refine (refNumbers_any (n := 3) SL.out (by have := HLA.out; simp; omega) (by omega) HSS.out).mono ?_
  rintro e w2 ⟨⟨pq, nq, cq, rfl, ho⟩, t2⟩
  have T2 := Lib.hid (TX.out.trans t2)
  have BR2 := Lib.hid ((t2.block _ (heap_lt BR.out) (fun h => h)).trans BR.out)
  have BX2 := Lib.hid ((t2.block _ (heap_lt BX.out) (fun h => h)).trans BX.out)
  have SL2 := Lib.hid (SL.out.turn t2)
  have HGS := Lib.hid t2.size
  clear t2
  cases hn : refNums (k :: A) 3 with
  | none =>
    have HR : Hid (machineS zeroS L = .error 5) := Lib.hid (HF.out.1 (fun a b c h => by
      unfold refNums at hn
      have hl := numsL_length h
      simp at hl
      rw [if_pos (by simp; omega)] at hn
      simp at hn
      rw [hn] at h; cases h))
    clear hn ho
    obtain ⟨i0, i1, i2, i3, i4, i5⟩ := cells6 BR2.out
    have f0 := frozen_blk (o := 0) BR2.out
    have f1 := frozen_blk (o := 1) BR2.out
    have f2 := frozen_blk (o := 2) BR2.out
    have f3 := frozen_blk (o := 3) BR2.out
    have f4 := frozen_blk (o := 4) BR2.out
    have f5 := frozen_blk (o := 5) BR2.out
    go_wp2_with fail
    refine bodyPost_ret (v := .tuple #[.agg sZero, .int .i64 5]) (mach_res rfl rfl (store6 BR2.out _ _ _ _ _ _)) rfl ?_
    exact MP.err HR.out (six_turn T2.out (Nat.le_refl _) _ _ _ _ _ _)
  | some N =>
    have ho := ho N hn
    obtain ⟨hA3, hN⟩ : A.length = 3 ∧ numsL A = some N := by
      unfold refNums at hn
      split at hn
      · rename_i h; exact ⟨by simpa using h, by simpa using hn⟩
      · cases hn
    have hN3 : N.length = 3 := (numsL_length hN).trans hA3
    obtain ⟨a, c, d, rfl⟩ : ∃ a c d, N = [a, c, d] := by
      match N, hN3 with
      | [a, c, d], _ => exact ⟨a, c, d, rfl⟩
    have hq3 : nq = 3 := by
      rcases ho.2 with ⟨_, h0⟩ | ⟨_, _, _, e, _⟩
      · cases h0
      · cases e; rfl
    subst hq3
    obtain ⟨g, hgB, rfl, g0, g1, g2⟩ := own3 ho
    obtain ⟨b', o', cap', hvv, hcap', hc'⟩ := SL2.out.resolve_left (fun h => by cases h.1)
    have hd0 := hc' 0 (by simp)
    simp only [Value.slice.injEq, Option.some.injEq, Addr.mk.injEq] at hvv
    obtain ⟨⟨rfl, rfl, _⟩, hlen, rfl⟩ := hvv
    rw [Nat.add_zero] at hd0
    have e00 : w2.cell? ⟨b, o, none⟩ = some (.string ⟨k.toArray⟩) := hd0
    have HNN := Lib.hid hN
    have hgX : ¬ g = w.heap.size + 1 := by have := heap_lt BX.out; omega
    have hXg : ¬ w.heap.size + 1 = g := fun e => hgX e.symm
    have hcapp : 4 ≤ cap := by simp at hcap'; omega
    clear hn ho hN hN3 hA3 hc' hd0 hcap' hlen hgB
    by_cases hk : k = wMachine
    · subst hk
      have e0 : w2.cell? ⟨b, o, none⟩ = some (.string ⟨#[109, 97, 99, 104, 105, 110, 101]⟩) := e00
      clear e00
      obtain ⟨i0, i1, i2, i3, i4, i5⟩ := cells6 BX2.out
      have f0 := frozen_blk (o := 0) BX2.out
      have f1 := frozen_blk (o := 1) BX2.out
      have f2 := frozen_blk (o := 2) BX2.out
      clear i3 i4 i5
      go_wp2_with fail
      go_region
      have BX3 := Lib.hid (three_blk BX2.out (.int .i64 a) (.int .i64 c) (.int .i64 d))
      have BR3 := Lib.hid (three_oth (r := w.heap.size + 1) BR2.out (by omega) (.int .i64 a) (.int .i64 c) (.int .i64 d))
      have T3 := Lib.hid (three_turn (B := w.heap.size + 1) T2.out (by omega) (.int .i64 a) (.int .i64 c) (.int .i64 d))
      obtain ⟨w3, hw3⟩ : ∃ w3, (((w2.setCell ⟨w.heap.size + 1, 0, none⟩ (.int .i64 a)).setCell ⟨w.heap.size + 1, 1, none⟩ (.int .i64 c)).setCell ⟨w.heap.size + 1, 2, none⟩ (.int .i64 d)).drew = w3 := ⟨_, rfl⟩
      rw [hw3] at BX3 BR3 T3 ⊢
      clear hw3 i0 i1 i2 f0 f1 f2 g0 g1 g2 e0 BR2 BX2 T2 SL2
      obtain ⟨i0, i1, i2, i3, i4, i5⟩ := cells6 BX3.out
      have HC := Lib.hid (refConfig_any a c d w3)
      clear i3 i4 i5
      cases hcf : configOk a c d with
      | false =>
        have HR := Lib.hid ((HF.out.2 a c d rfl HNN.out).1 hcf)
        rw [hcf] at HC
        clear hcf
        go_wp2_with fail
        refine HC.out.mono ?_
        rintro e w2 ⟨rfl, t4⟩
        have T2 := Lib.hid (T3.out.trans t4)
        have BR2 := Lib.hid ((t4.block _ (heap_lt BR3.out) (fun h => h)).trans BR3.out)
        clear t4 i0 i1 i2
        obtain ⟨i0, i1, i2, i3, i4, i5⟩ := cells6 BR2.out
        have f0 := frozen_blk (o := 0) BR2.out
        have f1 := frozen_blk (o := 1) BR2.out
        have f2 := frozen_blk (o := 2) BR2.out
        have f3 := frozen_blk (o := 3) BR2.out
        have f4 := frozen_blk (o := 4) BR2.out
        have f5 := frozen_blk (o := 5) BR2.out
        go_wp2_with fail
        refine bodyPost_ret (v := .tuple #[.agg sZero, .int .i64 2]) (mach_res rfl rfl (store6 BR2.out _ _ _ _ _ _)) rfl ?_
        exact MP.err HR.out (six_turn T2.out (Nat.le_refl _) _ _ _ _ _ _)
      | true =>
        have HR := Lib.hid ((HF.out.2 a c d rfl HNN.out).2 hcf)
        rw [hcf] at HC
        clear hcf
        go_wp2_with fail
        refine HC.out.mono ?_
        rintro e w2 ⟨rfl, t4⟩
        have T2 := Lib.hid (T3.out.trans t4)
        have BR2 := Lib.hid ((t4.block _ (heap_lt BR3.out) (fun h => h)).trans BR3.out)
        have BX2 := Lib.hid ((t4.block _ (heap_lt BX3.out) (fun h => h)).trans BX3.out)
        clear t4 i0 i1 i2
        obtain ⟨j0, j1, j2, j3, j4, j5⟩ := cells6 BX2.out
        obtain ⟨i0, i1, i2, i3, i4, i5⟩ := cells6 BR2.out
        have f0 := frozen_blk (o := 0) BR2.out
        have f1 := frozen_blk (o := 1) BR2.out
        have f2 := frozen_blk (o := 2) BR2.out
        have f3 := frozen_blk (o := 3) BR2.out
        have f4 := frozen_blk (o := 4) BR2.out
        have f5 := frozen_blk (o := 5) BR2.out
        go_wp2_with fail
        refine bodyPost_ret (v := .tuple #[.agg #[.int .i64 a, .int .i64 c, .int .i64 d, .bool true, .string ⟨#[]⟩, .slice none 0 0], .int .i64 0]) (mach_res rfl rfl (store6 BR2.out _ _ _ _ _ _)) rfl ?_
        exact MP.good HR.out rfl (six_turn T2.out (Nat.le_refl _) _ _ _ _ _ _)
    · have e0 : (k == [109, 97, 99, 104, 105, 110, 101]) = false := by rw [beq_eq_false_iff_ne]; exact hk
      have e1 : (k != [109, 97, 99, 104, 105, 110, 101]) = true := by rw [bne_iff_ne]; exact hk
      have HR : Hid (machineS zeroS L = .error 5) := Lib.hid (HF.out.1 (fun _ _ _ _ => hk))
      have HNK := Lib.hid hk
      clear hk g0 g1 g2
      obtain ⟨i0, i1, i2, i3, i4, i5⟩ := cells6 BR2.out
      have f0 := frozen_blk (o := 0) BR2.out
      have f1 := frozen_blk (o := 1) BR2.out
      have f2 := frozen_blk (o := 2) BR2.out
      have f3 := frozen_blk (o := 3) BR2.out
      have f4 := frozen_blk (o := 4) BR2.out
      have f5 := frozen_blk (o := 5) BR2.out
      go_wp2_with fail
      refine bodyPost_ret (v := .tuple #[.agg sZero, .int .i64 5]) (mach_res rfl rfl (store6 BR2.out _ _ _ _ _ _)) rfl ?_
      exact MP.err HR.out (six_turn T2.out (Nat.le_refl _) _ _ _ _ _ _)

set_option maxRecDepth 100000 in
set_option maxHeartbeats 8000000 in
theorem refMachine_n5 {L : List Bs} {b o cap n : Nat} {w : World} (hc : ∀ i, i < L.length → w.cell? ⟨b, o + i, none⟩ = some (.string ⟨(L[i]?.getD []).toArray⟩)) (hcap : L.length ≤ cap) (hL : L.length ≤ 1000000) (hs : ∀ i, i < L.length → (L[i]?.getD []).length ≤ 1000000) (h1 : 1 ≤ L.length) (h5 : n = 5) (h4 : L[4]?.getD [] ≠ wTwin) (hn : n = L.length) :
    Calls Tryz.prog 52 #[.slice (some ⟨b, o, none⟩) n cap] w (MP w L) := by
  obtain ⟨w1, hw1⟩ : ∃ w1, (w.alloc (.cells (zeroCells false) 26)).alloc (.cells (zeroCells false) 26) = w1 := ⟨_, rfl⟩
  obtain ⟨r1, x1, t1⟩ := alloc2 hw1
  have hbl : b < w.heap.size := World.block_lt_of_cell? w _ (hc 0 (by omega))
  obtain ⟨k, A, rfl⟩ : ∃ k A, L = k :: A := by
    cases L with
    | nil => simp at h1
    | cons k A => exact ⟨k, A, rfl⟩
  have SLW : StrSl w (.slice (some ⟨b, o, none⟩) n cap) (k :: A) := .inr ⟨b, o, cap, by rw [hn], hcap, hc⟩
  have HSS := Lib.hid hs
  have HLA : Hid (A.length + 1 ≤ 1000000) := Lib.hid (by simp at hL; omega)
  have htw : decide ((k :: A).length = 5 ∧ (k :: A)[4]? = some wTwin) = false := by
    rw [decide_eq_false_iff_not]
    rintro ⟨_, he⟩
    apply h4
    rw [he]; rfl
  have HF := Lib.hid (mform (s := zeroS) (k := k) (A := A) htw rfl)
  have k4 : w1.cell? ⟨b, o + 4, none⟩ = some (.string ⟨((k :: A)[4]?.getD []).toArray⟩) := cell_turn t1 (hc 4 (by omega))
  obtain ⟨y4, hy4⟩ : ∃ y4, (k :: A)[4]?.getD [] = y4 := ⟨_, rfl⟩
  rw [hy4] at k4 h4
  have e4 : (y4 == [116, 119, 105, 110]) = false := by rw [beq_eq_false_iff_ne]; exact h4
  have hc5 : 5 ≤ cap := by omega
  clear htw h4 hy4
  subst h5
  simp only [zeroCells] at r1 x1 hw1
  have SL := Lib.hid (SLW.turn t1)
  have BX := Lib.hid x1
  have BR := Lib.hid r1
  have TX := Lib.hid t1
  have HBL := Lib.hid hbl
  clear hc hcap hL hs SLW r1 x1 t1 hbl h1
  clear hn
  go_enter Tryz.func52, Tryz.ntmps52
  go_wp2_with fail
  refine (refNumbers_any (n := 3) SL.out (by have := HLA.out; simp; omega) (by omega) HSS.out).mono ?_
  rintro e w2 ⟨⟨pq, nq, cq, rfl, ho⟩, t2⟩
  have T2 := Lib.hid (TX.out.trans t2)
  have BR2 := Lib.hid ((t2.block _ (heap_lt BR.out) (fun h => h)).trans BR.out)
  have BX2 := Lib.hid ((t2.block _ (heap_lt BX.out) (fun h => h)).trans BX.out)
  have SL2 := Lib.hid (SL.out.turn t2)
  have HGS := Lib.hid t2.size
  clear t2
  cases hn : refNums (k :: A) 3 with
  | none =>
    have HR : Hid (machineS zeroS (k :: A) = .error 5) := Lib.hid (HF.out.1 (fun a b c h => by
      unfold refNums at hn
      have hl := numsL_length h
      simp at hl
      rw [if_pos (by simp; omega)] at hn
      simp at hn
      rw [hn] at h; cases h))
    clear hn ho
    obtain ⟨i0, i1, i2, i3, i4, i5⟩ := cells6 BR2.out
    have f0 := frozen_blk (o := 0) BR2.out
    have f1 := frozen_blk (o := 1) BR2.out
    have f2 := frozen_blk (o := 2) BR2.out
    have f3 := frozen_blk (o := 3) BR2.out
    have f4 := frozen_blk (o := 4) BR2.out
    have f5 := frozen_blk (o := 5) BR2.out
    go_wp2_with fail
    refine bodyPost_ret (v := .tuple #[.agg sZero, .int .i64 5]) (mach_res rfl rfl (store6 BR2.out _ _ _ _ _ _)) rfl ?_
    exact MP.err HR.out (six_turn T2.out (Nat.le_refl _) _ _ _ _ _ _)
  | some N =>
    have ho := ho N hn
    obtain ⟨hA3, hN⟩ : A.length = 3 ∧ numsL A = some N := by
      unfold refNums at hn
      split at hn
      · rename_i h; exact ⟨by simpa using h, by simpa using hn⟩
      · cases hn
    have hN3 : N.length = 3 := (numsL_length hN).trans hA3
    obtain ⟨a, c, d, rfl⟩ : ∃ a c d, N = [a, c, d] := by
      match N, hN3 with
      | [a, c, d], _ => exact ⟨a, c, d, rfl⟩
    have hq3 : nq = 3 := by
      rcases ho.2 with ⟨_, h0⟩ | ⟨_, _, _, e, _⟩
      · cases h0
      · cases e; rfl
    subst hq3
    obtain ⟨g, hgB, rfl, g0, g1, g2⟩ := own3 ho
    obtain ⟨b', o', cap', hvv, hcap', hc'⟩ := SL2.out.resolve_left (fun h => by cases h.1)
    have hd0 := hc' 0 (by simp)
    simp only [Value.slice.injEq, Option.some.injEq, Addr.mk.injEq] at hvv
    obtain ⟨⟨rfl, rfl, _⟩, hlen, rfl⟩ := hvv
    exfalso
    simp at hlen
    omega

set_option maxRecDepth 100000 in
set_option maxHeartbeats 8000000 in
theorem refMachine_nn {L : List Bs} {b o cap n : Nat} {w : World} (hc : ∀ i, i < L.length → w.cell? ⟨b, o + i, none⟩ = some (.string ⟨(L[i]?.getD []).toArray⟩)) (hcap : L.length ≤ cap) (hL : L.length ≤ 1000000) (hs : ∀ i, i < L.length → (L[i]?.getD []).length ≤ 1000000) (h1 : 1 ≤ L.length) (h5 : L.length ≠ 5) (hn : n = L.length) :
    Calls Tryz.prog 52 #[.slice (some ⟨b, o, none⟩) n cap] w (MP w L) := by
  obtain ⟨w1, hw1⟩ : ∃ w1, (w.alloc (.cells (zeroCells false) 26)).alloc (.cells (zeroCells false) 26) = w1 := ⟨_, rfl⟩
  obtain ⟨r1, x1, t1⟩ := alloc2 hw1
  have hbl : b < w.heap.size := World.block_lt_of_cell? w _ (hc 0 (by omega))
  obtain ⟨k, A, rfl⟩ : ∃ k A, L = k :: A := by
    cases L with
    | nil => simp at h1
    | cons k A => exact ⟨k, A, rfl⟩
  have SLW : StrSl w (.slice (some ⟨b, o, none⟩) n cap) (k :: A) := .inr ⟨b, o, cap, by rw [hn], hcap, hc⟩
  have HSS := Lib.hid hs
  have HLA : Hid (A.length + 1 ≤ 1000000) := Lib.hid (by simp at hL; omega)
  have htw : decide ((k :: A).length = 5 ∧ (k :: A)[4]? = some wTwin) = false := by
    rw [decide_eq_false_iff_not]
    rintro ⟨he, _⟩
    omega
  have HF := Lib.hid (mform (s := zeroS) (k := k) (A := A) htw rfl)
  have hn5 : ((n : Int) == 5) = false := by rw [beq_eq_false_iff_ne]; omega
  have hnl : n ≤ 1000000 := by omega
  clear htw
  clear h5
  simp only [zeroCells] at r1 x1 hw1
  have SL := Lib.hid (SLW.turn t1)
  have BX := Lib.hid x1
  have BR := Lib.hid r1
  have TX := Lib.hid t1
  have HBL := Lib.hid hbl
  clear hc hcap hL hs SLW r1 x1 t1 hbl h1
  clear hn
  go_enter Tryz.func52, Tryz.ntmps52
  go_wp2_with fail
  refine (refNumbers_any (n := 3) SL.out (by have := HLA.out; simp; omega) (by omega) HSS.out).mono ?_
  rintro e w2 ⟨⟨pq, nq, cq, rfl, ho⟩, t2⟩
  have T2 := Lib.hid (TX.out.trans t2)
  have BR2 := Lib.hid ((t2.block _ (heap_lt BR.out) (fun h => h)).trans BR.out)
  have BX2 := Lib.hid ((t2.block _ (heap_lt BX.out) (fun h => h)).trans BX.out)
  have SL2 := Lib.hid (SL.out.turn t2)
  have HGS := Lib.hid t2.size
  clear t2
  cases hn : refNums (k :: A) 3 with
  | none =>
    have HR : Hid (machineS zeroS (k :: A) = .error 5) := Lib.hid (HF.out.1 (fun a b c h => by
      unfold refNums at hn
      have hl := numsL_length h
      simp at hl
      rw [if_pos (by simp; omega)] at hn
      simp at hn
      rw [hn] at h; cases h))
    clear hn ho
    obtain ⟨i0, i1, i2, i3, i4, i5⟩ := cells6 BR2.out
    have f0 := frozen_blk (o := 0) BR2.out
    have f1 := frozen_blk (o := 1) BR2.out
    have f2 := frozen_blk (o := 2) BR2.out
    have f3 := frozen_blk (o := 3) BR2.out
    have f4 := frozen_blk (o := 4) BR2.out
    have f5 := frozen_blk (o := 5) BR2.out
    go_wp2_with fail
    refine bodyPost_ret (v := .tuple #[.agg sZero, .int .i64 5]) (mach_res rfl rfl (store6 BR2.out _ _ _ _ _ _)) rfl ?_
    exact MP.err HR.out (six_turn T2.out (Nat.le_refl _) _ _ _ _ _ _)
  | some N =>
    have ho := ho N hn
    obtain ⟨hA3, hN⟩ : A.length = 3 ∧ numsL A = some N := by
      unfold refNums at hn
      split at hn
      · rename_i h; exact ⟨by simpa using h, by simpa using hn⟩
      · cases hn
    have hN3 : N.length = 3 := (numsL_length hN).trans hA3
    obtain ⟨a, c, d, rfl⟩ : ∃ a c d, N = [a, c, d] := by
      match N, hN3 with
      | [a, c, d], _ => exact ⟨a, c, d, rfl⟩
    have hq3 : nq = 3 := by
      rcases ho.2 with ⟨_, h0⟩ | ⟨_, _, _, e, _⟩
      · cases h0
      · cases e; rfl
    subst hq3
    obtain ⟨g, hgB, rfl, g0, g1, g2⟩ := own3 ho
    obtain ⟨b', o', cap', hvv, hcap', hc'⟩ := SL2.out.resolve_left (fun h => by cases h.1)
    have hd0 := hc' 0 (by simp)
    simp only [Value.slice.injEq, Option.some.injEq, Addr.mk.injEq] at hvv
    obtain ⟨⟨rfl, rfl, _⟩, hlen, rfl⟩ := hvv
    rw [Nat.add_zero] at hd0
    have e00 : w2.cell? ⟨b, o, none⟩ = some (.string ⟨k.toArray⟩) := hd0
    have HNN := Lib.hid hN
    have hgX : ¬ g = w.heap.size + 1 := by have := heap_lt BX.out; omega
    have hXg : ¬ w.heap.size + 1 = g := fun e => hgX e.symm
    have hcapp : 4 ≤ cap := by simp at hcap'; omega
    obtain rfl : n = 4 := by simp at hlen; omega
    clear hn ho hN hN3 hA3 hc' hd0 hcap' hlen hgB
    by_cases hk : k = wMachine
    · subst hk
      have e0 : w2.cell? ⟨b, o, none⟩ = some (.string ⟨#[109, 97, 99, 104, 105, 110, 101]⟩) := e00
      clear e00
      obtain ⟨i0, i1, i2, i3, i4, i5⟩ := cells6 BX2.out
      have f0 := frozen_blk (o := 0) BX2.out
      have f1 := frozen_blk (o := 1) BX2.out
      have f2 := frozen_blk (o := 2) BX2.out
      clear i3 i4 i5
      go_wp2_with fail
      go_region
      have BX3 := Lib.hid (three_blk BX2.out (.int .i64 a) (.int .i64 c) (.int .i64 d))
      have BR3 := Lib.hid (three_oth (r := w.heap.size + 1) BR2.out (by omega) (.int .i64 a) (.int .i64 c) (.int .i64 d))
      have T3 := Lib.hid (three_turn (B := w.heap.size + 1) T2.out (by omega) (.int .i64 a) (.int .i64 c) (.int .i64 d))
      obtain ⟨w3, hw3⟩ : ∃ w3, (((w2.setCell ⟨w.heap.size + 1, 0, none⟩ (.int .i64 a)).setCell ⟨w.heap.size + 1, 1, none⟩ (.int .i64 c)).setCell ⟨w.heap.size + 1, 2, none⟩ (.int .i64 d)).drew = w3 := ⟨_, rfl⟩
      rw [hw3] at BX3 BR3 T3 ⊢
      clear hw3 i0 i1 i2 f0 f1 f2 g0 g1 g2 e0 BR2 BX2 T2 SL2
      obtain ⟨i0, i1, i2, i3, i4, i5⟩ := cells6 BX3.out
      have HC := Lib.hid (refConfig_any a c d w3)
      clear i3 i4 i5
      cases hcf : configOk a c d with
      | false =>
        have HR := Lib.hid ((HF.out.2 a c d rfl HNN.out).1 hcf)
        rw [hcf] at HC
        clear hcf
        go_wp2_with fail
        refine HC.out.mono ?_
        rintro e w2 ⟨rfl, t4⟩
        have T2 := Lib.hid (T3.out.trans t4)
        have BR2 := Lib.hid ((t4.block _ (heap_lt BR3.out) (fun h => h)).trans BR3.out)
        clear t4 i0 i1 i2
        obtain ⟨i0, i1, i2, i3, i4, i5⟩ := cells6 BR2.out
        have f0 := frozen_blk (o := 0) BR2.out
        have f1 := frozen_blk (o := 1) BR2.out
        have f2 := frozen_blk (o := 2) BR2.out
        have f3 := frozen_blk (o := 3) BR2.out
        have f4 := frozen_blk (o := 4) BR2.out
        have f5 := frozen_blk (o := 5) BR2.out
        go_wp2_with fail
        refine bodyPost_ret (v := .tuple #[.agg sZero, .int .i64 2]) (mach_res rfl rfl (store6 BR2.out _ _ _ _ _ _)) rfl ?_
        exact MP.err HR.out (six_turn T2.out (Nat.le_refl _) _ _ _ _ _ _)
      | true =>
        have HR := Lib.hid ((HF.out.2 a c d rfl HNN.out).2 hcf)
        rw [hcf] at HC
        clear hcf
        go_wp2_with fail
        refine HC.out.mono ?_
        rintro e w2 ⟨rfl, t4⟩
        have T2 := Lib.hid (T3.out.trans t4)
        have BR2 := Lib.hid ((t4.block _ (heap_lt BR3.out) (fun h => h)).trans BR3.out)
        have BX2 := Lib.hid ((t4.block _ (heap_lt BX3.out) (fun h => h)).trans BX3.out)
        clear t4 i0 i1 i2
        obtain ⟨j0, j1, j2, j3, j4, j5⟩ := cells6 BX2.out
        obtain ⟨i0, i1, i2, i3, i4, i5⟩ := cells6 BR2.out
        have f0 := frozen_blk (o := 0) BR2.out
        have f1 := frozen_blk (o := 1) BR2.out
        have f2 := frozen_blk (o := 2) BR2.out
        have f3 := frozen_blk (o := 3) BR2.out
        have f4 := frozen_blk (o := 4) BR2.out
        have f5 := frozen_blk (o := 5) BR2.out
        go_wp2_with fail
        refine bodyPost_ret (v := .tuple #[.agg #[.int .i64 a, .int .i64 c, .int .i64 d, .bool false, .string ⟨#[]⟩, .slice none 0 0], .int .i64 0]) (mach_res rfl rfl (store6 BR2.out _ _ _ _ _ _)) rfl ?_
        exact MP.good HR.out rfl (six_turn T2.out (Nat.le_refl _) _ _ _ _ _ _)
    · have e0 : (k == [109, 97, 99, 104, 105, 110, 101]) = false := by rw [beq_eq_false_iff_ne]; exact hk
      have e1 : (k != [109, 97, 99, 104, 105, 110, 101]) = true := by rw [bne_iff_ne]; exact hk
      have HR : Hid (machineS zeroS (k :: A) = .error 5) := Lib.hid (HF.out.1 (fun _ _ _ _ => hk))
      have HNK := Lib.hid hk
      clear hk g0 g1 g2
      obtain ⟨i0, i1, i2, i3, i4, i5⟩ := cells6 BR2.out
      have f0 := frozen_blk (o := 0) BR2.out
      have f1 := frozen_blk (o := 1) BR2.out
      have f2 := frozen_blk (o := 2) BR2.out
      have f3 := frozen_blk (o := 3) BR2.out
      have f4 := frozen_blk (o := 4) BR2.out
      have f5 := frozen_blk (o := 5) BR2.out
      go_wp2_with fail
      refine bodyPost_ret (v := .tuple #[.agg sZero, .int .i64 5]) (mach_res rfl rfl (store6 BR2.out _ _ _ _ _ _)) rfl ?_
      exact MP.err HR.out (six_turn T2.out (Nat.le_refl _) _ _ _ _ _ _)

theorem refMachine_any {v : Value} {L : List Bs} {w : World} (hv : StrSl w v L) (hne : L ≠ []) (hL : L.length ≤ 1000000) (hs : ∀ i, i < L.length → (L[i]?.getD []).length ≤ 1000000) : Calls Tryz.prog 52 #[v] w (MP w L) := by
  rcases hv with ⟨h, _⟩ | ⟨b, o, cap, rfl, hcap, hc⟩
  · exact absurd h hne
  · have h1 : 1 ≤ L.length := List.length_pos_iff.2 hne
    by_cases h5 : L.length = 5
    · by_cases h4 : L[4]? = some wTwin
      · rw [h5]; exact refMachine_tw hc hcap hL hs h5 h4
      · exact refMachine_n5 hc hcap hL hs h1 h5 (fun e => h4 (by
          rw [List.getElem?_eq_getElem (by omega)] at e ⊢
          exact congrArg some e)) rfl
    · exact refMachine_nn hc hcap hL hs h1 h5 rfl
end Go.Proofs.YtjnllclpdllceaaGreatDoor
