/- The document's table: CanPut, CanTake, Live. -/
import Derived.Test.YtjnekmdocbmofaaRb
namespace Go.Proofs.Ytjnekmdocbmofaa
set_option linter.unusedSimpArgs false
set_option linter.unusedVariables false
open Go.RowKit Go.Shelf

variable {w : World} {rb sb n m : Nat} {cs : List (Option Ch)} {cur : Array Value} {vs : Nat → Bool → Value}

theorem refOpen_q (h : RefTab w rb sb n m cs cur vs) (e : Int) {b : Bool} (hb : openA cs e = b) :
    Calls Try.prog 51 #[.pointer (some ⟨rb, 0, none⟩), .int .i64 e] w fun r w' => r = .returned (.bool b) ∧ w' = w := by
  rw [← hb]; exact (refOpen_any h e).mono fun r w' ⟨h1, h2⟩ => ⟨h1, h2.symm⟩

theorem RefTab.drewN (h : RefTab w rb sb n m cs cur vs) (k : Nat) : RefTab (w.drewN k) rb sb n m cs cur vs :=
  ⟨h.tab, h.slots, h.size, h.len, h.n64, h.m1, h.m16, h.sr, h.used, h.ch, h.apart⟩
theorem RefTab.drew (h : RefTab w rb sb n m cs cur vs) : RefTab w.drew rb sb n m cs cur vs :=
  ⟨h.tab, h.slots, h.size, h.len, h.n64, h.m1, h.m16, h.sr, h.used, h.ch, h.apart⟩

set_option maxRecDepth 100000 in
set_option maxHeartbeats 1000000 in
theorem refCanPut_any (h : RefTab w rb sb n m cs cur vs) (e : Int) :
    Calls Try.prog 52 #[.pointer (some ⟨rb, 0, none⟩), .int .i64 e] w fun r w' => r = .returned (.bool (canPutA cs m e)) ∧ ∃ k, w' = w.drewN k := by
  have h0 := h.c0
  have h1 := h.c1
  cases ho : openA cs e with
  | false =>
    rw [canPut_shut ho]
    have HQ := Lib.hid (fun k => refOpen_q (h.drewN k) e ho)
    clear h ho
    go_enter Try.func52, Try.ntmps52
    go_wp2_with fail
    go_quiet ((go_at_call 51; exact Calls.quiet_of_same (HQ.out _)))
    go_wp2_with fail
    go_ret
    exact ⟨rfl, _, rfl⟩
  | true =>
    obtain ⟨i, s, c, hs⟩ : ∃ i s c, sideOf cs e = some (i, s, c) := by
      cases hs : sideOf cs e with
      | none => rw [open_none hs] at ho; cases ho
      | some x => exact ⟨x.1, x.2.1, x.2.2, rfl⟩
    obtain ⟨g1, g2, g3, g4, g5, g6, g7, g8⟩ := side_nums hs (by have := h.n64; have := h.len; omega)
    have hc := h.cv g2 s
    have hoc : c.o s = true := by rw [open_some hs] at ho; exact ho
    have hval : canPutA cs m e = decide ((c.l s).length < m) := by unfold canPutA; rw [hs]; simp only [hoc, Bool.true_and]
    rw [hval]
    obtain ⟨pa, cap, hv⟩ := ((h.ch i c g2).2.2.2.2 s).1.shape
    rw [hv] at hc
    obtain ⟨N, hN⟩ : ∃ N, (c.l s).length = N := ⟨_, rfl⟩
    rw [hN] at hc ⊢
    have g9 : (i : Int) < (n : Int) := by have := h.len; omega
    have hn := h.n64
    have HQ := Lib.hid (fun k => refOpen_q (h.drewN k) e ho)
    clear h ho g1 g2 g6 g7 hval hv hN hs hoc
    cases s
    all_goals
      simp only [zOf, if_true, if_false, Bool.false_eq_true, Nat.add_zero, Int.natCast_zero, Int.natCast_one] at hc g4 g8
      try (have g8 : e % 2 = 0 := g8)
      try (have g8 : e % 2 = 1 := g8)
      try (have g4 : IntKind.i64.wrap (e.tmod 2) = 0 := g4)
      try (have g4 : IntKind.i64.wrap (e.tmod 2) = 1 := g4)
      go_enter Try.func52, Try.ntmps52
      go_wp2_with fail
      go_quiet ((go_at_call 51; exact Calls.quiet_of_same (HQ.out _)))
      go_wp2_with fail
      go_ret
      exact ⟨by simp, _, rfl⟩

set_option maxRecDepth 100000 in
set_option maxHeartbeats 1000000 in
theorem refCanTake_any (h : RefTab w rb sb n m cs cur vs) (e : Int) :
    Calls Try.prog 56 #[.pointer (some ⟨rb, 0, none⟩), .int .i64 e] w fun r w' => r = .returned (.bool (canTakeA cs e)) ∧ w = w' := by
  have h0 := h.c0
  have h1 := h.c1
  cases ho : openA cs e with
  | false =>
    rw [canTake_shut ho]
    have HQ := Lib.hid (refOpen_q h e ho)
    clear h ho
    go_enter Try.func56, Try.ntmps56
    go_wp2_with fail
    refine HQ.out.mono ?_
    rintro r w' ⟨rfl, rfl⟩
    go_wp2_with fail
    go_ret
    exact ⟨rfl, rfl⟩
  | true =>
    obtain ⟨i, s, c, hs⟩ : ∃ i s c, sideOf cs e = some (i, s, c) := by
      cases hs : sideOf cs e with
      | none => rw [open_none hs] at ho; cases ho
      | some x => exact ⟨x.1, x.2.1, x.2.2, rfl⟩
    obtain ⟨g1, g2, g3, g4, g5, g6, g7, g8⟩ := side_nums hs (by have := h.n64; have := h.len; omega)
    have hc := h.cv g2 (!s)
    have hoc : c.o s = true := by rw [open_some hs] at ho; exact ho
    have hval : canTakeA cs e = decide (0 < (c.l (!s)).length) := by unfold canTakeA; rw [hs]; simp only [hoc, Bool.true_and]
    rw [hval]
    obtain ⟨pa, cap, hv⟩ := ((h.ch i c g2).2.2.2.2 (!s)).1.shape
    rw [hv] at hc
    obtain ⟨N, hN⟩ : ∃ N, (c.l (!s)).length = N := ⟨_, rfl⟩
    rw [hN] at hc ⊢
    have g9 : (i : Int) < (n : Int) := by have := h.len; omega
    have hn := h.n64
    have HQ := Lib.hid (refOpen_q h e ho)
    clear h ho g1 g2 g6 g7 hval hv hN hs hoc
    cases s
    all_goals
      simp only [zOf, if_true, if_false, Bool.false_eq_true, Nat.add_zero, Int.natCast_zero, Int.natCast_one, Bool.not_true, Bool.not_false] at hc g4 g8
      try (have g8 : e % 2 = 0 := g8)
      try (have g8 : e % 2 = 1 := g8)
      try (have g4 : IntKind.i64.wrap (e.tmod 2) = 0 := g4)
      try (have g4 : IntKind.i64.wrap (e.tmod 2) = 1 := g4)
      go_enter Try.func56, Try.ntmps56
      go_wp2_with fail
      refine HQ.out.mono ?_
      rintro r w' ⟨rfl, rfl⟩
      go_wp2_with fail
      go_ret
      exact ⟨by simp, rfl⟩

set_option maxHeartbeats 1000000 in
theorem refLive_any (h : RefTab w rb sb n m cs cur vs) :
    Calls Try.prog 35 #[.pointer (some ⟨rb, 0, none⟩)] w fun r w' => r = .returned (.int .i64 (liveA cs)) ∧ w = w' := by
  have h0 := h.c0
  have hn := h.len
  have h64 := h.n64
  have hc : ∀ i (hi : i < n), w.cell? ⟨sb, i * 5, none⟩ = some (.bool (cs[i]'(by omega)).isSome) := fun i hi => h.cu (List.getElem?_eq_getElem (by omega))
  have HC := Lib.hid hc
  clear hc h
  go_enter Try.func35, Try.ntmps35
  go_wp2_with fail
  go_loop [3, 4] (fun l i => ∃ k : Nat, k ≤ n ∧ i = .int .i64 k ∧ l = .int .i64 (liveA (cs.take k))) (fun _ i => n - (intOf i).toNat)
  case atStart => exact ⟨0, Nat.zero_le _, rfl, rfl⟩
  case round =>
    obtain ⟨k, hk, rfl, rfl⟩ := hrel
    have hl := liveA_le (cs.take k)
    have hl2 : (cs.take k).length ≤ k := List.length_take_le _ _
    by_cases hlt : k < n
    · have hk2 : (k : Int) < (n : Int) := by omega
      have hg := HC.out k hlt
      have hx : k < cs.length := by omega
      cases hck : cs[k]'hx with
      | none =>
        rw [hck] at hg
        have hg : w.cell? ⟨sb, k * 5, none⟩ = some (.bool false) := hg
        have HL := Lib.hid (liveA_snoc (cs := cs) (k := k) (o := none) (by rw [List.getElem?_eq_getElem hx, hck]))
        clear hck
        go_wp2
        go_round
        case rel => exact ⟨k + 1, by omega, by go_num, by rw [HL.out]; rfl⟩
        case measure => simp [intOf]; omega
      | some c =>
        rw [hck] at hg
        have hg : w.cell? ⟨sb, k * 5, none⟩ = some (.bool true) := hg
        have HL := Lib.hid (liveA_snoc (cs := cs) (k := k) (o := some c) (by rw [List.getElem?_eq_getElem hx, hck]))
        clear hck
        go_wp2
        go_round
        case rel => exact ⟨k + 1, by omega, by go_num, by rw [HL.out]; go_num⟩
        case measure => simp [intOf]; omega
    · obtain rfl : k = n := by omega
      have HL := Lib.hid (show liveA (cs.take k) = liveA cs by rw [List.take_of_length_le (by omega)])
      go_wp2
      go_ret
      exact ⟨by rw [HL.out]; rfl, rfl⟩
end Go.Proofs.Ytjnekmdocbmofaa
