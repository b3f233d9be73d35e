/- The table's Make. -/
import Derived.Test.YtjnekmdocbmofaaCa
import Derived.Test.YtjnekmdocbmofaaHe
namespace Go.Proofs.Ytjnekmdocbmofaa
set_option linter.unusedSimpArgs false
set_option linter.unusedVariables false
open Go.RowKit Go.Shelf

theorem TabIs.cell0 {w tb sb n m cs} (h : TabIs w tb sb n m cs) : w.cell? ⟨tb, 0, none⟩ = some (.slice (some ⟨sb, 0, none⟩) n n) := by
  rw [cell_blk h.tab]; rfl
theorem TabIs.cell1 {w tb sb n m cs} (h : TabIs w tb sb n m cs) : w.cell? ⟨tb, 1, none⟩ = some (.int .i64 m) := by
  rw [cell_blk h.tab]; rfl

def STM (tb sb n m : Nat) (w : World) : Prop := w.cell? ⟨tb, 0, none⟩ = some (.slice (some ⟨sb, 0, none⟩) n n) ∧ w.cell? ⟨tb, 1, none⟩ = some (.int .i64 m)

theorem heap_lt {w : World} {b : Nat} {o : Obj} (h : w.heap[b]? = some o) : b < w.heap.size := (Array.getElem?_eq_some_iff.1 h).1

theorem TabIs.stm {w tb sb n m cs} (h : TabIs w tb sb n m cs) : STM tb sb n m w := ⟨h.cell0, h.cell1⟩

theorem ChIs.turn {S : Nat → Prop} {w w' m c} (h : ChIs w m c) (t : Turn S w w') (h0 : ¬ S c.base) (h1 : ¬ S (c.base + 1)) (h2 : ¬ S (c.base + 2)) : ChIs w' m c :=
  ⟨(t.block _ (heap_lt h.1) h2).trans h.1, h.2.1.turn t h0, h.2.2.turn t h1⟩

theorem TabIs.turn' {w w' tb sb n m cs} (h : TabIs w tb sb n m cs) (t : Turn Nn w w') : TabIs w' tb sb n m cs :=
  ⟨(t.block _ (heap_lt h.tab) (fun h => h)).trans h.tab, (t.block _ (heap_lt h.slots) (fun h => h)).trans h.slots, h.len, h.n64, h.m1, h.m16, h.ts, fun c hc => ⟨(h.ch c hc).1.turn t (fun h => h) (fun h => h) (fun h => h), (h.ch c hc).2⟩, h.apart⟩

theorem TabIs.setSlot {w tb sb n m cs} (h : TabIs w tb sb n m cs) (i : Nat) (v : Option Ch)
    (hv : ∀ c, v = some c → ChIs w m c ∧ tb < c.base ∧ ∀ (j : Nat) (d : Ch), cs[j]? = some (some d) → j ≠ i → c.base + 2 < d.base ∨ d.base + 2 < c.base) :
    TabIs (w.setCell ⟨sb, i, none⟩ (chPtr v)) tb sb n m (cs.set i v) := by
  have t : Turn (QIn sb) w (w.setCell ⟨sb, i, none⟩ (chPtr v)) := (Turn.refl (QIn sb) w).setCell (p := ⟨sb, i, none⟩) (.inl rfl) _
  have hts := h.ts
  have hq : ∀ k, tb ≤ k → ¬ QIn sb k := fun k hk e => by have e : k = sb := e; omega
  refine ⟨(t.block _ (heap_lt h.tab) (hq _ (Nat.le_refl _))).trans h.tab, ?_, by rw [List.length_set]; exact h.len, h.n64, h.m1, h.m16, h.ts, fun c hc => ?_, fun a b c d ha hb hab => ?_⟩
  · rw [heap_setCell_at h.slots]
    simp only [chVals, List.setIfInBounds_toArray, List.map_set]
  · have key : ChIs w m c ∧ tb < c.base := by
      rcases List.mem_or_eq_of_mem_set hc with hc | hc
      · exact h.ch c hc
      · exact ⟨(hv c hc.symm).1, (hv c hc.symm).2.1⟩
    exact ⟨key.1.turn t (hq _ (by omega)) (hq _ (by omega)) (hq _ (by omega)), key.2⟩
  · rw [List.getElem?_set] at ha hb
    by_cases h1 : i = a
    · subst h1
      rw [if_neg hab] at hb
      split at ha
      · split at ha
        · exact (hv c (by simpa using ha)).2.2 b d hb (Ne.symm hab)
        · cases ha
      · exact absurd rfl ‹_›
    · rw [if_neg h1] at ha
      by_cases h2 : i = b
      · subst h2
        rw [if_pos rfl] at hb
        split at hb
        · rcases (hv d (by simpa using hb)).2.2 a c ha hab with h | h
          · exact .inr h
          · exact .inl h
        · cases hb
      · rw [if_neg h2] at hb
        exact h.apart a b c d ha hb hab

set_option maxRecDepth 100000 in
set_option maxHeartbeats 4000000 in
theorem make_full {w tb sb n m cs} (h : TabIs w tb sb n m cs) (hf : free cs = none) :
    Calls Try.prog 25 #[.pointer (some ⟨tb, 0, none⟩)] w fun e w' => e = .returned (.tuple #[.int .i64 (-1), .int .i64 22]) ∧ w = w' := by
  have h0 := h.cell0
  have hi := index_any h.slots h.len h.n64
  rw [show idxOf cs = -1 by unfold idxOf; rw [hf]] at hi
  have HI := Lib.hid hi
  clear hi
  go_enter Try.func25, Try.ntmps25
  go_wp2_with fail
  refine HI.out.mono ?_
  rintro e w' ⟨rfl, rfl⟩
  go_wp2_with fail
  go_ret2
  exact ⟨rfl, rfl⟩

set_option maxRecDepth 100000 in
set_option maxHeartbeats 4000000 in
theorem make_ok {w tb sb n m cs} {i : Nat} (h : TabIs w tb sb n m cs) (hf : free cs = some i) (hin : i < n) :
    Calls Try.prog 25 #[.pointer (some ⟨tb, 0, none⟩)] w fun e w' => e = .returned (.tuple #[.int .i64 i, .int .i64 0]) ∧ TabIs w' tb sb n m (cs.set i (some ⟨w.heap.size, true, true, [], []⟩)) ∧ Turn (QIn sb) w w' := by
  have h0 := h.cell0
  have h1 := h.cell1
  have hn := h.n64
  have hm1 := h.m1
  have hm2 := h.m16
  have hi := index_any h.slots h.len h.n64
  rw [show idxOf cs = i by unfold idxOf; rw [hf]] at hi
  have HI := Lib.hid hi
  have HT := Lib.hid h
  have hin2 : (i : Int) < (n : Int) := by omega
  have hfz : ∀ j, w.frozen? ⟨sb, j, none⟩ = false := fun j => frozen_blk h.slots _
  clear hi h
  have hS : STM tb sb n m w := ⟨h0, h1⟩
  go_enter Try.func25, Try.ntmps25
  go_wp2_with fail
  refine HI.out.mono ?_
  rintro e w' ⟨rfl, rfl⟩
  go_wp2_with fail
  have hS : STM tb sb n m w.drew := hS
  clear h0 h1
  refine held_begin (STM tb sb n m) (by kernel_rfl) ?_
  refine held_take 0 ?_ rfl (by kernel_rfl) (by kernel_rfl) (by kernel_rfl) (fun _ _ _ h => h) (Or.inl ⟨by kernel_rfl, ?_⟩) hS ?_
  rotate_left 1
  · intro u hu; obtain ⟨hu1, hu2⟩ := hu; go_simp; first | done | with_reducible rfl
  try simp only [Act.put, List.getElem_toArray, List.getElem_cons_succ, List.getElem_cons_zero, List.setIfInBounds_toArray, List.set_cons_succ, List.set_cons_zero]
  refine held_take 1 ?_ rfl (by kernel_rfl) (by kernel_rfl) (by kernel_rfl) (fun _ _ _ h => h) (Or.inl ⟨by kernel_rfl, ?_⟩) hS ?_
  rotate_left 1
  · intro u hu; obtain ⟨hu1, hu2⟩ := hu; go_simp; first | done | with_reducible rfl
  try simp only [Act.put, List.getElem_toArray, List.getElem_cons_succ, List.getElem_cons_zero, List.setIfInBounds_toArray, List.set_cons_succ, List.set_cons_zero]
  refine held_take 2 ?_ rfl (by kernel_rfl) (by kernel_rfl) (by kernel_rfl) (fun _ _ _ h => h) (Or.inl ⟨by kernel_rfl, ?_⟩) hS ?_
  rotate_left 1
  · intro u hu; obtain ⟨hu1, hu2⟩ := hu; go_simp; first | done | with_reducible rfl
  try simp only [Act.put, List.getElem_toArray, List.getElem_cons_succ, List.getElem_cons_zero, List.setIfInBounds_toArray, List.set_cons_succ, List.set_cons_zero]
  refine held_take 3 ?_ rfl (by kernel_rfl) (by kernel_rfl) (by kernel_rfl) (fun _ _ _ h => h) (Or.inl ⟨by kernel_rfl, ?_⟩) hS ?_
  rotate_left 1
  · intro u hu; obtain ⟨hu1, hu2⟩ := hu; go_simp; first | done | with_reducible rfl
  try simp only [Act.put, List.getElem_toArray, List.getElem_cons_succ, List.getElem_cons_zero, List.setIfInBounds_toArray, List.set_cons_succ, List.set_cons_zero]
  refine held_take 4 ?_ rfl (by kernel_rfl) (by kernel_rfl) (by kernel_rfl) (fun _ _ _ h => h) (Or.inl ⟨by kernel_rfl, ?_⟩) hS ?_
  rotate_left 1
  · intro u hu; obtain ⟨hu1, hu2⟩ := hu; go_simp; first | done | with_reducible rfl
  try simp only [Act.put, List.getElem_toArray, List.getElem_cons_succ, List.getElem_cons_zero, List.setIfInBounds_toArray, List.set_cons_succ, List.set_cons_zero]
  refine held_take 5 ?_ rfl (by kernel_rfl) (by kernel_rfl) (by kernel_rfl) (fun _ _ _ h => h) (Or.inl ⟨by kernel_rfl, ?_⟩) hS ?_
  rotate_left 1
  · intro u hu; obtain ⟨hu1, hu2⟩ := hu; go_simp; first | done | with_reducible rfl
  try simp only [Act.put, List.getElem_toArray, List.getElem_cons_succ, List.getElem_cons_zero, List.setIfInBounds_toArray, List.set_cons_succ, List.set_cons_zero]
  refine held_take 6 ?_ rfl (by kernel_rfl) (by kernel_rfl) (by kernel_rfl) (fun _ _ _ h => h) (Or.inl ⟨by kernel_rfl, ?_⟩) hS ?_
  rotate_left 1
  · intro u hu; obtain ⟨hu1, hu2⟩ := hu; go_simp; first | done | with_reducible rfl
  try simp only [Act.put, List.getElem_toArray, List.getElem_cons_succ, List.getElem_cons_zero, List.setIfInBounds_toArray, List.set_cons_succ, List.set_cons_zero]
  refine held_take 7 ?_ rfl (by kernel_rfl) (by kernel_rfl) (by kernel_rfl) (fun _ _ _ h => h) (Or.inl ⟨by kernel_rfl, ?_⟩) hS ?_
  rotate_left 1
  · intro u hu; obtain ⟨hu1, hu2⟩ := hu; go_simp; first | done | with_reducible rfl
  try simp only [Act.put, List.getElem_toArray, List.getElem_cons_succ, List.getElem_cons_zero, List.setIfInBounds_toArray, List.set_cons_succ, List.set_cons_zero]
  refine held_take 8 ?_ rfl (by kernel_rfl) (by kernel_rfl) (by kernel_rfl) (fun _ _ _ h => h) (Or.inl ⟨by kernel_rfl, ?_⟩) hS ?_
  rotate_left 1
  · intro u hu; obtain ⟨hu1, hu2⟩ := hu; go_simp; first | done | with_reducible rfl
  try simp only [Act.put, List.getElem_toArray, List.getElem_cons_succ, List.getElem_cons_zero, List.setIfInBounds_toArray, List.set_cons_succ, List.set_cons_zero]
  refine held_take 9 ?_ rfl (by kernel_rfl) (by kernel_rfl) (by kernel_rfl) (fun _ _ _ h => h) (Or.inl ⟨by kernel_rfl, ?_⟩) hS ?_
  rotate_left 1
  · intro u hu; obtain ⟨hu1, hu2⟩ := hu; go_simp; first | done | with_reducible rfl
  try simp only [Act.put, List.getElem_toArray, List.getElem_cons_succ, List.getElem_cons_zero, List.setIfInBounds_toArray, List.set_cons_succ, List.set_cons_zero]
  refine held_take 11 ?_ rfl (by kernel_rfl) (by kernel_rfl) (by kernel_rfl) (fun _ _ _ h => h) (Or.inl ⟨by kernel_rfl, ?_⟩) hS ?_
  rotate_left 1
  · intro u hu; obtain ⟨hu1, hu2⟩ := hu; go_simp; first | done | with_reducible rfl
  try simp only [Act.put, List.getElem_toArray, List.getElem_cons_succ, List.getElem_cons_zero, List.setIfInBounds_toArray, List.set_cons_succ, List.set_cons_zero]
  refine held_take 12 ?_ rfl (by kernel_rfl) (by kernel_rfl) (by kernel_rfl) (fun _ _ _ h => h) (Or.inl ⟨by kernel_rfl, ?_⟩) hS ?_
  rotate_left 1
  · intro u hu; obtain ⟨hu1, hu2⟩ := hu; go_simp; first | done | with_reducible rfl
  try simp only [Act.put, List.getElem_toArray, List.getElem_cons_succ, List.getElem_cons_zero, List.setIfInBounds_toArray, List.set_cons_succ, List.set_cons_zero]
  refine held_take 13 ?_ rfl (by kernel_rfl) (by kernel_rfl) (by kernel_rfl) (fun _ _ _ h => h) (Or.inl ⟨by kernel_rfl, ?_⟩) hS ?_
  rotate_left 1
  · intro u hu; obtain ⟨hu1, hu2⟩ := hu; go_simp; first | done | with_reducible rfl
  try simp only [Act.put, List.getElem_toArray, List.getElem_cons_succ, List.getElem_cons_zero, List.setIfInBounds_toArray, List.set_cons_succ, List.set_cons_zero]
  refine held_take 14 ?_ rfl (by kernel_rfl) (by kernel_rfl) (by kernel_rfl) (fun _ _ _ h => h) (Or.inl ⟨by kernel_rfl, ?_⟩) hS ?_
  rotate_left 1
  · intro u hu; obtain ⟨hu1, hu2⟩ := hu; go_simp; first | done | with_reducible rfl
  try simp only [Act.put, List.getElem_toArray, List.getElem_cons_succ, List.getElem_cons_zero, List.setIfInBounds_toArray, List.set_cons_succ, List.set_cons_zero]
  refine held_one 10 (by kernel_rfl) rfl (by kernel_rfl) (fun Ka hKa => ?_)
  go_simp
  refine (new_ok m _ hm1 hm2).mono ?_
  rintro e w1 ⟨rfl, hw1⟩
  have hs1 : w1.heap.size = w.heap.size + 1 := by rw [hw1]; simp
  have t1 : Turn Nn w w1 := by rw [hw1]; exact (Turn.refl _ _).drew.alloc _
  have q1 : QIs w1 w.heap.size [] m := by rw [hw1]; exact QIs.new (w := w.drew) hm1 hm2
  have hS : STM tb sb n m w1 := (HT.out.turn' t1).stm
  clear hw1
  refine hKa _ _ hS ?_
  clear hKa Ka
  try simp only [Act.put, List.getElem_toArray, List.getElem_cons_succ, List.getElem_cons_zero, List.setIfInBounds_toArray, List.set_cons_succ, List.set_cons_zero]
  refine held_one 15 (by kernel_rfl) rfl (by kernel_rfl) (fun Kb hKb => ?_)
  go_simp
  refine (new_ok m _ hm1 hm2).mono ?_
  rintro e w2 ⟨rfl, hw2⟩
  have hs2 : w2.heap.size = w.heap.size + 2 := by rw [hw2]; simp [hs1]
  have t2 : Turn Nn w w2 := t1.trans (by rw [hw2]; exact (Turn.refl _ _).alloc _)
  have q2 : QIs w2 w.heap.size [] m := q1.turn (S := Nn) (by rw [hw2]; exact (Turn.refl _ _).alloc _) (fun h => h)
  have q3 : QIs w2 (w.heap.size + 1) [] m := by rw [hw2, ← hs1]; exact QIs.new hm1 hm2
  have hS : STM tb sb n m w2 := (HT.out.turn' t2).stm
  clear hw2 q1 t1
  rw [hs1]
  refine hKb _ _ hS ?_
  clear hKb Kb
  try simp only [Act.put, List.getElem_toArray, List.getElem_cons_succ, List.getElem_cons_zero, List.setIfInBounds_toArray, List.set_cons_succ, List.set_cons_zero]
  refine held_take 16 ?_ rfl (by kernel_rfl) (by kernel_rfl) (by kernel_rfl) (fun _ _ _ h => h) (Or.inl ⟨by kernel_rfl, ?_⟩) hS ?_
  rotate_left 1
  · intro u hu; obtain ⟨hu1, hu2⟩ := hu; go_simp; first | done | with_reducible rfl
  try simp only [Act.put, List.getElem_toArray, List.getElem_cons_succ, List.getElem_cons_zero, List.setIfInBounds_toArray, List.set_cons_succ, List.set_cons_zero]
  refine held_take 17 ?_ rfl (by kernel_rfl) (by kernel_rfl) (by kernel_rfl) (fun _ _ _ h => h) (Or.inl ⟨by kernel_rfl, ?_⟩) hS ?_
  rotate_left 1
  · intro u hu; obtain ⟨hu1, hu2⟩ := hu; go_simp; first | done | with_reducible rfl
  try simp only [Act.put, List.getElem_toArray, List.getElem_cons_succ, List.getElem_cons_zero, List.setIfInBounds_toArray, List.set_cons_succ, List.set_cons_zero]
  refine held_one 18 (by kernel_rfl) rfl (by kernel_rfl) (fun Kc hKc => ?_)
  go_simp
  obtain ⟨w3, hw3⟩ : ∃ w3, w2.alloc (.cells #[.bool true, .bool true, .pointer (some ⟨w.heap.size, 0, none⟩), .pointer (some ⟨w.heap.size + 1, 0, none⟩)] 82) = w3 := ⟨_, rfl⟩
  rw [hw3]
  have t23 : Turn Nn w2 w3 := by rw [← hw3]; exact (Turn.refl _ _).alloc _
  have t3 : Turn Nn w w3 := t2.trans t23
  have hc : ChIs w3 m ⟨w.heap.size, true, true, [], []⟩ := ⟨by rw [← hw3]; show (w2.alloc _).heap[w.heap.size + 2]? = _; rw [← hs2]; exact World.alloc_heap_new _ _, q2.turn t23 (fun h => h), q3.turn t23 (fun h => h)⟩
  have hT3 := HT.out.turn' t3
  have hS : STM tb sb n m w3 := hT3.stm
  have hf3 : w3.frozen? ⟨sb, i, none⟩ = false := frozen_blk hT3.slots _
  have hc3 : w3.cell? ⟨sb, i, none⟩ = some (chPtr (cs[i]?.getD none)) := by
    rw [cell_blk hT3.slots]; simp [chVals, HT.out.len, hin]
  have HC := Lib.hid hc
  have HT3 := Lib.hid hT3
  obtain ⟨x3, hx3⟩ : ∃ x, chPtr (cs[i]?.getD none) = x := ⟨_, rfl⟩
  rw [hx3] at hc3
  clear hx3 hw3 t2 t23 q2 q3 hc hT3
  refine hKc _ _ hS ?_
  clear hKc Kc
  try simp only [Act.put, List.getElem_toArray, List.getElem_cons_succ, List.getElem_cons_zero, List.setIfInBounds_toArray, List.set_cons_succ, List.set_cons_zero]
  refine held_take 19 ?_ rfl (by kernel_rfl) (by kernel_rfl) (by kernel_rfl) (fun _ _ _ h => h) (Or.inl ⟨by kernel_rfl, ?_⟩) hS ?_
  rotate_left 1
  · intro u hu; obtain ⟨hu1, hu2⟩ := hu; go_simp; first | done | with_reducible rfl
  try simp only [Act.put, List.getElem_toArray, List.getElem_cons_succ, List.getElem_cons_zero, List.setIfInBounds_toArray, List.set_cons_succ, List.set_cons_zero]
  refine held_one 20 (by kernel_rfl) rfl (by kernel_rfl) (fun Kd hKd => ?_)
  go_simp
  refine hKd _ _ ?_ ?_
  rotate_left 1
  clear hKd Kd
  try simp only [Act.put, List.getElem_toArray, List.getElem_cons_succ, List.getElem_cons_zero, List.setIfInBounds_toArray, List.set_cons_succ, List.set_cons_zero]
  refine wpAnyH_done (by kernel_rfl) ?_ _
  go_wp2_with fail
  go_ret2
  · have hnew := HT3.out.setSlot i (some ⟨w.heap.size, true, true, [], []⟩) (fun c hc => by
      cases hc
      refine ⟨HC.out, heap_lt HT.out.tab, fun j d hd _ => .inr ?_⟩
      have := heap_lt (HT.out.ch d (List.mem_of_getElem? hd)).1.1
      exact this)
    exact ⟨rfl, hnew, (t3.mono (T := QIn sb) (fun _ h => h.elim)).setCell (p := ⟨sb, i, none⟩) (.inl rfl) _⟩
  · exact (HT3.out.setSlot i none (fun c hc => by cases hc)).stm |> fun h => ⟨(World.cell?_of_block (w := w3) (a := ⟨tb, 0, none⟩) (((Turn.refl (QIn sb) w3).setCell (p := ⟨sb, i, none⟩) (.inl rfl) _).block tb (heap_lt HT3.out.tab) (fun e => by have e : tb = sb := e; have := HT.out.ts; omega))).trans HT3.out.cell0, (World.cell?_of_block (w := w3) (a := ⟨tb, 1, none⟩) (((Turn.refl (QIn sb) w3).setCell (p := ⟨sb, i, none⟩) (.inl rfl) _).block tb (heap_lt HT3.out.tab) (fun e => by have e : tb = sb := e; have := HT.out.ts; omega))).trans HT3.out.cell1⟩
end Go.Proofs.Ytjnekmdocbmofaa
