/- The document's table: Take. -/
import Derived.Test.YtjnekmdocbmofaaRh
namespace Go.Proofs.Ytjnekmdocbmofaa
set_option linter.unusedSimpArgs false
set_option linter.unusedVariables false
open Go.RowKit Go.Shelf

variable {w w' : World} {rb sb n m : Nat} {cs : List (Option Ch)} {cur cur' : Array Value} {vs : Nat → Bool → Value}

theorem Ch.setl_l (c : Ch) (r s : Bool) (L : List Int) : (c.setl r L).l s = if s = r then L else c.l s := by cases r <;> cases s <;> rfl
theorem Ch.setl_o0 (c : Ch) (r : Bool) (L : List Int) : (c.setl r L).o0 = c.o0 := by cases r <;> rfl
theorem Ch.setl_o1 (c : Ch) (r : Bool) (L : List Int) : (c.setl r L).o1 = c.o1 := by cases r <;> rfl

/-- A queue of the document's is turned. -/
theorem RefTab.setq (h : RefTab w rb sb n m cs cur vs) {i : Nat} {c : Ch} (hc : cs[i]? = some (some c)) (r : Bool) {w1 : World} {v' : Value} {L' : List Int} (t : Turn (fun k => blkOf (vs i r) = some k) w w1) (hv : RefSl w1 rb v' L') (hL : L'.length ≤ m)
    (hb : ∀ k, blkOf v' = some k → blkOf (vs i r) = some k ∨ w.heap.size ≤ k) :
    RefGoes w (w1.setCell ⟨sb, i * 5 + 3 + zOf r, none⟩ v') rb sb n m cs (cs.set i (some (c.setl r L'))) vs := by
  have hi : i < n := by rw [← h.len]; exact (List.getElem?_eq_some_iff.1 hc).1
  obtain ⟨k1, k2, k3, k4, k5⟩ := h.ch i c hc
  have hsr := h.sr
  have hz : zOf r < 2 := by cases r <;> decide
  have hsb : ¬ blkOf (vs i r) = some sb := fun hk => by have := ((k5 r).1.blt hk).2; omega
  have hs1 : w1.heap[sb]? = some (.cells cur 92) := (t.block _ (heap_lt h.slots) hsb).trans h.slots
  have tq : Turn (QIn sb) w1 (w1.setCell ⟨sb, i * 5 + 3 + zOf r, none⟩ v') := (Turn.refl (QIn sb) w1).setCell (p := ⟨sb, _, none⟩) (.inl rfl) _
  have tt : Turn (fun k => k = sb ∨ blkOf (vs i r) = some k) w (w1.setCell ⟨sb, i * 5 + 3 + zOf r, none⟩ v') := (t.mono (fun k hk => .inr hk)).trans (tq.mono (fun k hk => .inl hk))
  have hsz := h.size
  have hf := h.fix (S := fun k => k = sb ∨ blkOf (vs i r) = some k) (w' := w1.setCell ⟨sb, i * 5 + 3 + zOf r, none⟩ v') hi (o' := some (c.setl r L')) (u := fun s => if s = r then v' else vs i s) (heap_setCell_at hs1 _ _) (by simp) (fun j t hj ht => set1_other _ i _ _ (by omega) j t hj ht)
    (by rw [Array.getElem?_setIfInBounds_ne (by omega)]; exact (show cur[i * 5]? = some (.bool (some c).isSome) from h.used i _ hc))
    (fun d hd => by
      cases hd
      rw [Ch.setl_o0, Ch.setl_o1]
      refine ⟨by rw [Array.getElem?_setIfInBounds_ne (by omega)]; exact k1, by rw [Array.getElem?_setIfInBounds_ne (by omega)]; exact k2, ?_, ?_, fun s => ?_⟩
      · cases r
        · exact Array.getElem?_setIfInBounds_self_of_lt (by rw [hsz]; simp [zOf]; omega)
        · rw [Array.getElem?_setIfInBounds_ne (by simp [zOf])]; exact k3
      · cases r
        · rw [Array.getElem?_setIfInBounds_ne (by simp [zOf])]; exact k4
        · exact Array.getElem?_setIfInBounds_self_of_lt (by rw [hsz]; simp [zOf]; omega)
      · rw [Ch.setl_l]
        by_cases hsr' : s = r
        · simp only [hsr', if_true]
          exact ⟨hv.turnB tq (fun k hk hS => by have := (hv.blt hk).2; have hS : k = sb := hS; omega), hL⟩
        · simp only [hsr', if_false]
          refine ⟨(k5 s).1.turnB tt (fun k hk hS => ?_), (k5 s).2⟩
          rcases hS with hS | hS
          · have := ((k5 s).1.blt hk).2; omega
          · exact h.apart i s i r c c k hc hc (.inr hsr') hk hS)
    tt (fun k hk => hk.elim .inl (fun h => .inr ⟨r, c, hc, h⟩))
    (fun g hg h9 => by
      have hlt : ∀ s, blkOf (vs i s) = some g → g < w.heap.size := fun s h => ((k5 s).1.blt h).1
      cases r
      · simp only [if_true, Bool.true_eq_false, if_false] at hg h9
        rcases hb g hg with h1 | h1
        · exact h.apart i false i true c c g hc hc (.inr (by decide)) h1 h9
        · have := hlt true h9; omega
      · simp only [if_true, Bool.false_eq_true, if_false] at hg h9
        rcases hb g h9 with h1 | h1
        · exact h.apart i false i true c c g hc hc (.inr (by decide)) hg h1
        · have := hlt false hg; omega)
    (fun s k hk => by
      by_cases hsr' : s = r
      · simp only [hsr', if_true] at hk
        rcases hb k hk with h1 | h1
        · exact .inl ⟨r, c, hc, h1⟩
        · exact .inr h1
      · simp only [hsr', if_false] at hk
        exact .inl ⟨s, c, hc, hk⟩)
  exact ⟨⟨_, _, hf.1, hf.2⟩, tt.mono (fun k hk => hk.elim .inl (fun h => .inr ⟨i, r, c, hc, h⟩))⟩

theorem RefGoes.drew {cs2 : List (Option Ch)} (h : RefGoes w w' rb sb n m cs cs2 vs) : RefGoes w w'.drew rb sb n m cs cs2 vs := by
  obtain ⟨⟨c2, v2, h1, h2⟩, t⟩ := h
  exact ⟨⟨c2, v2, h1.drew, h2⟩, t.drew⟩

theorem refCanTake_q (h : RefTab w rb sb n m cs cur vs) (e : Int) {b : Bool} (hb : canTakeA cs e = b) :
    Calls Try.prog 56 #[.pointer (some ⟨rb, 0, none⟩), .int .i64 e] w fun r w' => r = .returned (.bool b) ∧ w = w' := by
  rw [← hb]; exact refCanTake_any h e
theorem refOpen_e (h : RefTab w rb sb n m cs cur vs) (e : Int) {b : Bool} (hb : openA cs e = b) :
    Calls Try.prog 51 #[.pointer (some ⟨rb, 0, none⟩), .int .i64 e] w fun r w' => r = .returned (.bool b) ∧ w = w' := by
  rw [← hb]; exact refOpen_any h e
theorem open_side {cs : List (Option Ch)} {e : Int} (ho : openA cs e = true) : ∃ i s c, sideOf cs e = some (i, s, c) ∧ c.o s = true := by
  cases hs : sideOf cs e with
  | none => rw [open_none hs] at ho; cases ho
  | some x => exact ⟨x.1, x.2.1, x.2.2, rfl, by rw [open_some (i := x.1) (s := x.2.1) (c := x.2.2) hs] at ho; exact ho⟩

/-- A slice less its first word. -/
theorem RefSl.tail {lo g o N cap : Nat} {x : Int} {L : List Int} (h : RefSl w lo (.slice (some ⟨g, o, none⟩) N cap) (x :: L)) :
    ∃ o', (∀ w, (Instr.sliceAt 35 (.slice (some ⟨g, o, none⟩) N cap) (some (.int .i64 1)) none none).run Try.prog w = .ok (.slice (some ⟨g, o', none⟩) (N - 1) (cap - 1)) w) ∧ RefSl w lo (.slice (some ⟨g, o', none⟩) (N - 1) (cap - 1)) L ∧ N = L.length + 1 ∧ w.cell? ⟨g, o, none⟩ = some (.int .i64 x) := by
  obtain ⟨g', o0, cap', cur, hg, hv, hcur, hfit, hcap, hc⟩ := h.resolve_left (fun h => by cases h.1)
  cases hv
  rw [List.length_cons] at hcap
  obtain ⟨o', hsl, ho'⟩ := run_sliceFrom1 g o (L.length + 1) cap (by omega) hcap w
  refine ⟨o', hsl, .inr ⟨g, o', cap - 1, cur, hg, by simp, hcur, by omega, by omega, fun i hi => ?_⟩, by simp, ?_⟩
  · have := hc (i + 1) (by simp; omega)
    rcases ho' with rfl | ⟨rfl, h1⟩
    · rw [show o + 1 + i = o + (i + 1) by omega, this]; simp
    · omega
  · have := hc 0 (by simp)
    rw [cell_blk hcur]; simpa using this

set_option maxRecDepth 100000 in
set_option maxHeartbeats 1000000 in
theorem refTake_any (h : RefTab w rb sb n m cs cur vs) {e x z : Int} {cs' : List (Option Ch)} (hz : takeT cs e = (x, z, cs')) :
    Calls Try.prog 32 #[.pointer (some ⟨rb, 0, none⟩), .int .i64 e] w fun r w' => r = .returned (.tuple #[.int .i64 x, .int .i64 z]) ∧ RefGoes w w' rb sb n m cs cs' vs := by
  cases ho : openA cs e with
  | false =>
    have E : Hid (x = 0 ∧ z = 24 ∧ cs' = cs) := Lib.hid (by
      unfold takeT at hz
      cases hs : sideOf cs e with
      | none => rw [hs] at hz; simp at hz; exact ⟨hz.1.symm, hz.2.1.symm, hz.2.2.symm⟩
      | some y => obtain ⟨i, s, c⟩ := y; rw [open_some hs] at ho; rw [hs] at hz; simp [ho] at hz; exact ⟨hz.1.symm, hz.2.1.symm, hz.2.2.symm⟩)
    rw [E.out.1, E.out.2.1, E.out.2.2]
    have HQ := Lib.hid (refOpen_e h e ho)
    have HT := Lib.hid h
    clear h ho hz E
    go_enter Try.func32, Try.ntmps32
    go_wp2_with fail
    refine HQ.out.mono ?_
    rintro r w' ⟨rfl, rfl⟩
    go_wp2_with fail
    go_ret2
    exact ⟨rfl, RefGoes.same HT.out (Turn.refl _ _)⟩
  | true =>
    obtain ⟨i, s, c, hs, hoc⟩ := open_side ho
    obtain ⟨g1, g2, g3, g4, g5, g6, g7, g8⟩ := side_nums hs (by have := h.n64; have := h.len; omega)
    unfold takeT at hz
    rw [hs] at hz
    simp only [hoc, if_true] at hz
    have HQ := Lib.hid (refOpen_e h e ho)
    cases hl : c.l (!s) with
    | nil =>
      rw [hl] at hz
      simp only [Prod.mk.injEq] at hz
      obtain ⟨rfl, rfl, rfl⟩ := hz
      have HC := Lib.hid (refCanTake_q h e (b := false) (by unfold canTakeA; rw [hs]; simp [hl]))
      have HT := Lib.hid h
      clear h ho hl hs hoc g1 g2 g3 g4 g5 g6 g7 g8
      go_enter Try.func32, Try.ntmps32
      go_wp2_with fail
      refine HQ.out.mono ?_
      rintro r w' ⟨rfl, rfl⟩
      go_wp2_with fail
      refine HC.out.mono ?_
      rintro r w' ⟨rfl, rfl⟩
      go_wp2_with fail
      go_ret2
      exact ⟨rfl, RefGoes.same HT.out (Turn.refl _ _)⟩
    | cons a L =>
      rw [hl] at hz
      simp only [Prod.mk.injEq] at hz
      obtain ⟨rfl, rfl, rfl⟩ := hz
      have HC := Lib.hid (refCanTake_q h e (b := true) (by unfold canTakeA; rw [hs]; simp [hl, hoc]))
      have h0 := h.c0
      have hn := h.n64
      have g9 : (i : Int) < (n : Int) := by have := h.len; omega
      have hcv := h.cv g2 (!s)
      have hf : ∀ t, w.frozen? ⟨sb, t, none⟩ = false := fun t => frozen_blk h.slots _
      obtain ⟨hsl, hle⟩ := (h.ch i c g2).2.2.2.2 (!s)
      rw [hl] at hsl hle
      have hsetq := fun v' hv hb => h.setq g2 (!s) (w1 := w) (v' := v') (L' := L) (Turn.refl _ _) hv (by simp at hle; omega) hb
      have hblt : ∀ k, blkOf (vs i (!s)) = some k → sb < k := fun k hk => by have := (hsl.blt hk).2; have := h.sr; omega
      generalize vs i (!s) = v at *
      obtain ⟨g, o, N, cap, rfl⟩ : ∃ g o N cap, v = .slice (some ⟨g, o, none⟩) N cap := by
        rcases hsl with ⟨h1, _⟩ | ⟨g, o, cap, cur, _, h1, _⟩
        · cases h1
        · exact ⟨g, o, _, cap, h1⟩
      obtain ⟨o', hrun, hsl2, hN, hcell⟩ := hsl.tail
      have hgs := hblt g rfl
      have HG := hsetq _ hsl2 (fun k hk => .inl (by simpa [blkOf] using hk))
      have HG2 := Lib.hid HG
      have hN1 : (0 : Int) < (N : Int) := by omega
      have hgs2 : g ≠ sb := by omega
      clear h ho hl hs hoc g1 g2 g6 g7 hsl hsetq hblt hsl2 hN hle HG
      cases s
      all_goals
        simp only [zOf, if_true, if_false, Bool.false_eq_true, Nat.add_zero, Int.natCast_zero, Int.natCast_one, Bool.not_true, Bool.not_false] at hcv g4 g8 HG2
        try (have g8 : e % 2 = 0 := g8)
        try (have g8 : e % 2 = 1 := g8)
        try (have g4 : IntKind.i64.wrap (e.tmod 2) = 0 := g4)
        try (have g4 : IntKind.i64.wrap (e.tmod 2) = 1 := g4)
        have g8t := Int.tmod_eq_emod_of_nonneg (b := 2) g5
        rw [g8] at g8t
        have hw0 : IntKind.i64.wrap (1 - 0) = 1 := by decide
        have hw1 : IntKind.i64.wrap (1 - 1) = 0 := by decide
        have hw2 : IntKind.i64.wrap 1 = 1 := by decide
        have hw3 : IntKind.i64.wrap 0 = 0 := by decide
        go_enter Try.func32, Try.ntmps32
        go_wp2_with fail
        refine HQ.out.mono ?_
        rintro r w' ⟨rfl, rfl⟩
        go_wp2_with fail
        refine HC.out.mono ?_
        rintro r w' ⟨rfl, rfl⟩
        go_wp2_with fail
        go_still_tail 14, (by kernel_rfl)
        go_wp2_with fail
        go_wp2_with fail
        go_ret2
        exact ⟨rfl, HG2.out.drew⟩
end Go.Proofs.Ytjnekmdocbmofaa
