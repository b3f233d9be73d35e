/- The bodies that ask calls: Put$1. -/
import Derived.Test.YtjnekmdocbmofaaCc
namespace Go.Proofs.Ytjnekmdocbmofaa
set_option linter.unusedSimpArgs false
set_option linter.unusedVariables false
open Go.RowKit Go.Shelf

def SP (b vb p : Nat) (z x : Int) (u : World) : Prop := u.cell? ⟨b, 0, none⟩ = some (.pointer (some ⟨p, 0, none⟩)) ∧ u.cell? ⟨b, 1, none⟩ = some (.int .i64 z) ∧ u.cell? ⟨vb, 0, none⟩ = some (.int .i64 x)

theorem SP.turn {S : Nat → Prop} {b vb p z x} {w w' : World} (h : SP b vb p z x w) (t : Turn S w w') (hb : ¬ S b) (hv : ¬ S vb) : SP b vb p z x w' :=
  ⟨(World.cell?_of_block (w := w) (a := ⟨b, 0, none⟩) (t.block b (World.block_lt_of_cell? w ⟨b, 0, none⟩ h.1) hb)).trans h.1, (World.cell?_of_block (w := w) (a := ⟨b, 1, none⟩) (t.block b (World.block_lt_of_cell? w ⟨b, 0, none⟩ h.1) hb)).trans h.2.1, (World.cell?_of_block (w := w) (a := ⟨vb, 0, none⟩) (t.block vb (World.block_lt_of_cell? w ⟨vb, 0, none⟩ h.2.2) hv)).trans h.2.2⟩

set_option maxRecDepth 100000 in
set_option maxHeartbeats 1000000 in
theorem put1_ok {w : World} {p q m vb : Nat} {z x : Int} {L : List Int} (ho : ∀ w1, Turn Nn w w1 → Calls Try.prog 50 #[.agg #[.pointer (some ⟨p, 0, none⟩), .int .i64 z]] w1 fun e w' => e = .returned (.pointer (some ⟨q, 0, none⟩)) ∧ Turn Nn w1 w')
    (hq : QIs w q L m) (hl : L.length < m) (hvq : vb ≠ q) (hv : w.cell? ⟨vb, 0, none⟩ = some (.int .i64 x)) :
    Calls Try.prog 49 #[.agg #[.pointer (some ⟨p, 0, none⟩), .int .i64 z], .pointer (some ⟨vb, 0, none⟩)] w fun e w' => e = .returned (.int .i64 0) ∧ QIs w' q (L ++ [x]) m ∧ Turn (QIn q) w w' := by
  have hqlt := hq.lt
  have tA : ∀ o, Turn Nn w (w.alloc o) := fun o => (Turn.refl _ _).alloc _
  have HQ := Lib.hid hq
  have HO := Lib.hid ho
  have hS : SP w.heap.size vb p z x (w.alloc (.cells #[.pointer (some ⟨p, 0, none⟩), .int .i64 z] 85)).drew :=
    ⟨by show (w.alloc _).cell? _ = _; rw [cell_blk (World.alloc_heap_new _ _)]; rfl, by show (w.alloc _).cell? _ = _; rw [cell_blk (World.alloc_heap_new _ _)]; rfl, (World.cell?_of_block (w := w) (a := ⟨vb, 0, none⟩) ((tA _).drew.block vb (World.block_lt_of_cell? w ⟨vb, 0, none⟩ hv) (fun h => h))).trans hv⟩
  clear hv hq ho
  go_enter Try.func49, Try.ntmps49
  go_wp2_with fail
  refine held_begin (SP w.heap.size vb p z x) (by kernel_rfl) ?_
  refine held_take 0 ?_ rfl (by kernel_rfl) (by kernel_rfl) (by kernel_rfl) (fun _ _ _ h => h) (Or.inl ⟨by kernel_rfl, ?_⟩) hS ?_
  rotate_left 1
  · intro u hu; obtain ⟨hu1, hu2, hu3⟩ := hu; go_simp; first | done | with_reducible rfl
  try simp only [Act.put, List.getElem_toArray, List.getElem_cons_succ, List.getElem_cons_zero, List.setIfInBounds_toArray, List.set_cons_succ, List.set_cons_zero]
  refine held_take 2 ?_ rfl (by kernel_rfl) (by kernel_rfl) (by kernel_rfl) (fun _ _ _ h => h) (Or.inl ⟨by kernel_rfl, ?_⟩) hS ?_
  rotate_left 1
  · intro u hu; obtain ⟨hu1, hu2, hu3⟩ := hu; go_simp; first | done | with_reducible rfl
  try simp only [Act.put, List.getElem_toArray, List.getElem_cons_succ, List.getElem_cons_zero, List.setIfInBounds_toArray, List.set_cons_succ, List.set_cons_zero]
  refine held_one 1 (by kernel_rfl) rfl (by kernel_rfl) (fun Ka hKa => ?_)
  go_simp
  refine (HO.out _ (tA _).drew).mono ?_
  rintro e w1 ⟨rfl, t1⟩
  have hS1 := hS.turn t1 (fun h => h) (fun h => h)
  have t2 := (tA _).drew.trans t1
  have q2 := HQ.out.turn t2 (fun h => h)
  refine hKa _ _ hS1 ?_
  clear hKa Ka hS t1
  try simp only [Act.put, List.getElem_toArray, List.getElem_cons_succ, List.getElem_cons_zero, List.setIfInBounds_toArray, List.set_cons_succ, List.set_cons_zero]
  refine held_one 3 (by kernel_rfl) rfl (by kernel_rfl) (fun Kb hKb => ?_)
  go_simp
  refine (putq_ok q2 x hl).mono ?_
  rintro e w3 ⟨rfl, q3, t3⟩
  have hS := hS1.turn t3 (fun h => by have h : w.heap.size = q := h; omega) (fun h => hvq h)
  have t4 : Turn (QIn q) w w3 := (t2.mono (T := QIn q) (fun _ h => h.elim)).trans t3
  refine hKb _ _ hS ?_
  clear hKb Kb hS1
  try simp only [Act.put, List.getElem_toArray, List.getElem_cons_succ, List.getElem_cons_zero, List.setIfInBounds_toArray, List.set_cons_succ, List.set_cons_zero]
  refine held_take 4 ?_ rfl (by kernel_rfl) (by kernel_rfl) (by kernel_rfl) (fun _ _ _ h => h) (Or.inl ⟨by kernel_rfl, ?_⟩) hS ?_
  rotate_left 1
  · intro u hu; obtain ⟨hu1, hu2, hu3⟩ := hu; go_simp; first | done | with_reducible rfl
  try simp only [Act.put, List.getElem_toArray, List.getElem_cons_succ, List.getElem_cons_zero, List.setIfInBounds_toArray, List.set_cons_succ, List.set_cons_zero]
  refine wpAnyH_done (by kernel_rfl) ?_ _
  go_wp2_with fail
  go_ret
  exact ⟨rfl, q3, t4⟩

set_option maxRecDepth 100000 in
set_option maxHeartbeats 1000000 in
theorem take1_ok {w : World} {p q m vb : Nat} {z x : Int} {y : Value} {L : List Int} (ho : ∀ w1, Turn Nn w w1 → Calls Try.prog 55 #[.agg #[.pointer (some ⟨p, 0, none⟩), .int .i64 z]] w1 fun e w' => e = .returned (.pointer (some ⟨q, 0, none⟩)) ∧ Turn Nn w1 w')
    (hq : QIs w q (x :: L) m) (hvq : vb ≠ q) (hv : w.heap[vb]? = some (.cells #[y] 2)) :
    Calls Try.prog 54 #[.agg #[.pointer (some ⟨p, 0, none⟩), .int .i64 z], .pointer (some ⟨vb, 0, none⟩)] w fun e w' => e = .returned (.int .i64 0) ∧ QIs w' q L m ∧ w'.heap[vb]? = some (.cells #[.int .i64 x] 2) ∧ Turn (fun k => k = q ∨ k = vb) w w' := by
  have tA : ∀ o, Turn Nn w (w.alloc o) := fun o => (Turn.refl _ _).alloc _
  have HQ := Lib.hid hq
  have HO := Lib.hid ho
  have HV := Lib.hid hv
  clear hv hq ho
  go_enter Try.func54, Try.ntmps54
  go_wp2_with fail
  refine (HO.out _ (tA _)).mono ?_
  rintro e w1 ⟨rfl, t1⟩
  have t2 := (tA _).trans t1
  have q2 := HQ.out.turn t2 (fun h => h)
  have v2 := (t2.block vb (heap_lt HV.out) (fun h => h)).trans HV.out
  clear t1
  go_wp2_with fail
  refine (takeq_ok q2).mono ?_
  rintro e w3 ⟨rfl, q3, t3⟩
  have v3 := (t3.block vb (heap_lt v2) (fun h => hvq h)).trans v2
  have t4 : Turn (fun k => k = q ∨ k = vb) w w3 := (t2.mono (fun _ h => h.elim)).trans (t3.mono (fun _ h => .inl h))
  have hf := frozen_blk v3 0
  have hc : w3.cell? ⟨vb, 0, none⟩ = some y := by rw [cell_blk v3]; rfl
  clear t3 t2 v2 q2
  go_wp2_with fail
  go_ret
  refine ⟨rfl, q3.turn (S := QIn vb) ((Turn.refl (QIn vb) w3).setCell (p := ⟨vb, 0, none⟩) (.inl rfl) _) (fun h => hvq (by have h : q = vb := h; exact h.symm)), ?_, t4.setCell (p := ⟨vb, 0, none⟩) (.inl (.inr rfl)) _⟩
  rw [heap_setCell_at v3]; rfl
end Go.Proofs.Ytjnekmdocbmofaa
