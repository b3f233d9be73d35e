/- The document's table: Close, Take. -/
import Derived.Test.YtjnekmdocbmofaaRg
namespace Go.Proofs.Ytjnekmdocbmofaa
set_option linter.unusedSimpArgs false
set_option linter.unusedVariables false
open Go.RowKit Go.Shelf

variable {w w' : World} {rb sb n m : Nat} {cs : List (Option Ch)} {cur cur' : Array Value} {vs : Nat → Bool → Value}

theorem RefGoes.trans {w1 w2 : World} {cs1 cs2 : List (Option Ch)} {vs1 : Nat → Bool → Value} (h : RefTab w rb sb n m cs cur vs) (hs1 : ∀ k, ROwn sb cs1 vs1 k → ROwn sb cs vs k ∨ w.heap.size ≤ k) (t1 : Turn (ROwn sb cs vs) w w1) (h2 : RefGoes w1 w2 rb sb n m cs1 cs2 vs1) : RefGoes w w2 rb sb n m cs cs2 vs := by
  obtain ⟨⟨cur2, vs2, hT, hO⟩, t2⟩ := h2
  refine ⟨⟨cur2, vs2, hT, fun k hk => ?_⟩, ?_⟩
  · rcases hO k hk with h | h
    · exact hs1 k h
    · exact .inr (Nat.le_trans t1.size h)
  · exact ⟨t2.os.trans t1.os, t2.tape.trans t1.tape, t2.output.trans t1.output, Nat.le_trans t1.size t2.size, fun k hk hn => (t2.block k (Nat.lt_of_lt_of_le hk t1.size) (fun h => by
      rcases hs1 k h with h | h
      · exact hn h
      · omega)).trans (t1.block k hk hn)⟩

theorem RefTab.cell_set (h : RefTab w rb sb n m cs cur vs) (p : Nat) (v : Value) : (w.setCell ⟨sb, p, none⟩ v).heap[sb]? = some (.cells (cur.setIfInBounds p v) 92) := heap_setCell_at h.slots p v

theorem set1_other (cur : Array Value) (k p : Nat) (v : Value) (hp : k * 5 ≤ p ∧ p < k * 5 + 5) (j t : Nat) (hj : j ≠ k) (ht : t < 5) : (cur.setIfInBounds p v)[j * 5 + t]? = cur[j * 5 + t]? :=
  Array.getElem?_setIfInBounds_ne (by omega)

/-- A side is shut. -/
theorem RefTab.shut (h : RefTab w rb sb n m cs cur vs) {i : Nat} {c : Ch} (s : Bool) (hc : cs[i]? = some (some c)) :
    ∃ cur', RefTab (w.setCell ⟨sb, i * 5 + 1 + zOf s, none⟩ (.bool true)) rb sb n m (cs.set i (some (c.shut s))) cur' (fun j => if j = i then vs i else vs j) ∧ (∀ k, ROwn sb (cs.set i (some (c.shut s))) (fun j => if j = i then vs i else vs j) k → ROwn sb cs vs k ∨ w.heap.size ≤ k) ∧ Turn (ROwn sb cs vs) w (w.setCell ⟨sb, i * 5 + 1 + zOf s, none⟩ (.bool true)) := by
  have hi : i < n := by rw [← h.len]; exact (List.getElem?_eq_some_iff.1 hc).1
  obtain ⟨k1, k2, k3, k4, k5⟩ := h.ch i c hc
  have hz : zOf s < 2 := by cases s <;> decide
  have t : Turn (QIn sb) w (w.setCell ⟨sb, i * 5 + 1 + zOf s, none⟩ (.bool true)) := (Turn.refl (QIn sb) w).setCell (p := ⟨sb, _, none⟩) (.inl rfl) _
  have hsz := h.size
  have hf := h.fix (S := QIn sb) (w' := w.setCell ⟨sb, i * 5 + 1 + zOf s, none⟩ (.bool true)) hi (o' := some (c.shut s)) (u := vs i) (h.cell_set _ _) (by simp) (fun j t hj ht => set1_other _ i _ _ (by omega) j t hj ht)
    (by rw [Array.getElem?_setIfInBounds_ne (by omega)]; exact (show cur[i * 5]? = some (.bool (some c).isSome) from h.used i _ hc))
    (fun d hd => by
      cases hd
      refine ⟨?_, ?_, by rw [Array.getElem?_setIfInBounds_ne (by omega)]; exact k3, by rw [Array.getElem?_setIfInBounds_ne (by omega)]; exact k4, fun r => ?_⟩
      · cases s
        · exact Array.getElem?_setIfInBounds_self_of_lt (by rw [hsz]; simp [zOf]; omega)
        · rw [Array.getElem?_setIfInBounds_ne (by simp [zOf])]; exact k1
      · cases s
        · rw [Array.getElem?_setIfInBounds_ne (by simp [zOf])]; exact k2
        · exact Array.getElem?_setIfInBounds_self_of_lt (by rw [hsz]; simp [zOf]; omega)
      · have e : (c.shut s).l r = c.l r := by cases s <;> cases r <;> rfl
        rw [e]
        exact ⟨(k5 r).1.turnB t (fun k hk hS => by have := ((k5 r).1.blt hk).2; have := h.sr; have hS : k = sb := hS; omega), (k5 r).2⟩)
    t (fun k hk => .inl hk) (fun g hg => h.apart i false i true c c g hc hc (.inr (by decide)) hg) (fun s k hk => .inl ⟨s, c, hc, hk⟩)
  exact ⟨_, hf.1, hf.2, t.mono (fun k hk => .inl hk)⟩

set_option maxRecDepth 100000 in
set_option maxHeartbeats 1000000 in
theorem refClose_any (h : RefTab w rb sb n m cs cur vs) {e z : Int} {cs' : List (Option Ch)} (hz : closeT cs e = (z, cs')) :
    Calls Try.prog 33 #[.pointer (some ⟨rb, 0, none⟩), .int .i64 e] w fun r w' => r = .returned (.int .i64 z) ∧ RefGoes w w' rb sb n m cs cs' vs := by
  cases ho : openA cs e with
  | false =>
    have E : Hid (z = 24 ∧ cs' = cs) := Lib.hid (by
      unfold closeT at hz
      cases hs : sideOf cs e with
      | none => rw [hs] at hz; simp at hz; exact ⟨hz.1.symm, hz.2.symm⟩
      | some x => obtain ⟨i, s, c⟩ := x; rw [open_some hs] at ho; rw [hs] at hz; simp [ho] at hz; exact ⟨hz.1.symm, hz.2.symm⟩)
    rw [E.out.1, E.out.2]
    have HQ := Lib.hid (refOpen_q h e ho)
    have HT := Lib.hid h
    clear h ho hz E
    go_enter Try.func33, Try.ntmps33
    go_wp2_with fail
    refine HQ.out.mono ?_
    rintro r w' ⟨rfl, rfl⟩
    go_wp2_with fail
    go_ret
    exact ⟨rfl, RefGoes.same HT.out (Turn.refl _ _)⟩
  | true =>
    obtain ⟨i, s, c, hs⟩ : ∃ i s c, sideOf cs e = some (i, s, c) := by
      cases hs : sideOf cs e with
      | none => rw [open_none hs] at ho; cases ho
      | some x => exact ⟨x.1, x.2.1, x.2.2, rfl⟩
    obtain ⟨g1, g2, g3, g4, g5, g6, g7, g8⟩ := side_nums hs (by have := h.n64; have := h.len; omega)
    have hoc : c.o s = true := by rw [open_some hs] at ho; exact ho
    have h0 := h.c0
    have hc0 := h.cc g2 s
    have hc1 := h.cc g2 (!s)
    have hf : ∀ t, w.frozen? ⟨sb, t, none⟩ = false := fun t => frozen_blk h.slots _
    rw [hoc] at hc0
    obtain ⟨b, hb⟩ : ∃ b, c.o (!s) = b := ⟨_, rfl⟩
    rw [hb] at hc1
    have g9 : (i : Int) < (n : Int) := by have := h.len; omega
    have hn := h.n64
    have hsr : sb ≠ rb := by have := h.sr; omega
    obtain ⟨cur1, hT1, hO1, ht1⟩ := h.shut s g2
    have hx : ∀ t, t < 5 → ∃ v, w.cell? ⟨sb, i * 5 + t, none⟩ = some v := fun t ht => h.cellx (by omega) ht
    have hlay := hT1.lay (k := i) (by omega) none (fun c hc => by cases hc)
    rw [List.set_set] at hlay
    have hend : RefGoes w (w.setCell ⟨sb, i * 5 + 1 + zOf s, none⟩ (.bool true)) rb sb n m cs (cs.set i (some (c.shut s))) vs := ⟨⟨_, _, hT1, hO1⟩, ht1⟩
    have hend2 := RefGoes.trans h hO1 ht1 hlay
    have HQ := Lib.hid (refOpen_q h e ho)
    have E : Hid ((z, cs') = if b then (0, cs.set i (some (c.shut s))) else (0, cs.set i none)) := Lib.hid (by
      rw [← hz]; unfold closeT; rw [hs]; simp only [hoc, if_true, hb])
    have HE := Lib.hid hend
    have HE2 := Lib.hid hend2
    have HX := Lib.hid hx
    clear h ho hz hs hoc hb g1 g2 g6 g7 hT1 hO1 ht1 hlay hend hend2 hx
    cases s
    all_goals
      simp only [zOf, if_true, if_false, Bool.false_eq_true, Nat.add_zero, Int.natCast_zero, Int.natCast_one, Bool.not_true, Bool.not_false] at hc0 hc1 g4 g8 HE HE2
      try (have g8 : e % 2 = 0 := g8)
      try (have g8 : e % 2 = 1 := g8)
      cases b
    all_goals
      first
      | (have E1 : Hid (z = 0 ∧ cs' = cs.set i none) := Lib.hid (by have := E.out; simpa using this)
         obtain ⟨y0, a0⟩ := HX.out 0 (by omega)
         obtain ⟨y3, a3⟩ := HX.out 3 (by omega)
         obtain ⟨y4, a4⟩ := HX.out 4 (by omega)
         rw [E1.out.1, E1.out.2]
         have a0 : _ = some y0 := a0
         simp only [Nat.add_zero] at a0)
      | (have E1 : Hid (z = 0 ∧ cs' = _) := Lib.hid (by have := E.out; simpa using this)
         rw [E1.out.1, E1.out.2])
      go_enter Try.func33, Try.ntmps33
      go_wp2_with fail
      refine HQ.out.mono ?_
      rintro r w' ⟨rfl, rfl⟩
      go_wp2_with fail
      go_ret
      first
      | exact ⟨rfl, by with_reducible exact HE.out⟩
      | (simp only [w5, Option.isSome_none] at HE2; exact ⟨rfl, HE2.out⟩)
end Go.Proofs.Ytjnekmdocbmofaa
