/- The program's walks: the rows. Printed by gen_wq.py. The program's walks: all rows. Printed by gen_wr.py. -/
import Derived.Test.YtpbjblbeepbklaaGreatDoorKg
import Derived.Laws.Rows
namespace Go.Proofs.YtpbjblbeepbklaaGreatDoor
set_option linter.unusedSimpArgs false
set_option linter.unusedVariables false
section
open Go.RowKit Go.Shelf

/-- The closures of a field. -/
def FV (w : World) : Fld → Value → Value → Prop
  | .word, t, r => t = .func (.func 92) #[] #[] ∧ r = .func (.func 93) #[] #[]
  | .made, t, r => t = .func (.func 94) #[] #[] ∧ r = .func (.func 95) #[] #[]
  | .child, t, r => t = .func (.func 96) #[] #[] ∧ r = .func (.func 97) #[] #[]
  | .place, t, r => t = .func (.func 98) #[] #[] ∧ r = .func (.func 99) #[] #[]
  | .label, t, r => ∃ b, t = .func (.func 101) #[] #[.pointer (some ⟨b, 0, none⟩)] ∧ r = .func (.func 102) #[] #[.pointer (some ⟨b, 0, none⟩)] ∧ BoxAt w b 100 120
  | .handed, t, r => ∃ b, t = .func (.func 104) #[] #[.pointer (some ⟨b, 0, none⟩)] ∧ r = .func (.func 105) #[] #[.pointer (some ⟨b, 0, none⟩)] ∧ BoxAt w b 103 29
theorem FV.turn {w w' : World} {f : Fld} {t r : Value} (h : FV w f t r) (k : Turn Nn w w') : FV w' f t r := by
  cases f with
  | label => obtain ⟨b, h1, h2, h3⟩ := h; exact ⟨b, h1, h2, h3.turn k⟩
  | handed => obtain ⟨b, h1, h2, h3⟩ := h; exact ⟨b, h1, h2, h3.turn k⟩
  | word => exact h
  | made => exact h
  | child => exact h
  | place => exact h
def MakeP (f : Fld) (w : World) (e : Ending) (w' : World) : Prop := ∃ t r, e = .returned (.agg #[t, r]) ∧ FV w' f t r ∧ Turn Nn w w'
theorem two_set {w : World} {a b : Value} {t : TypeId} (x y : Value) {B : Nat} (h : w.heap[B]? = some (.cells #[a, b] t)) :
    ((w.setCell ⟨B, 0, none⟩ x).setCell ⟨B, 1, none⟩ y).heap[B]? = some (.cells #[x, y] t) := heap_setCell_at (heap_setCell_at h 0 x) 1 y
theorem store_at {P : Program} {w : World} {b o : Nat} {v v0 : Value} (hc : w.cell? ⟨b, o, none⟩ = some v0) (hz : w.frozen? ⟨b, o, none⟩ = false) (h1 : v.oneCell' = true) : (store ⟨b, o, none⟩ v).run P w = .ok () (w.setCell ⟨b, o, none⟩ v) := by
  rw [run_store _ _ _ _ _ h1, hc]; simp [hz]
theorem mk_word (w : World) : Calls Tryz.prog 66 #[] w (MakeP .word w) := by
  obtain ⟨w1, hw1⟩ : ∃ w1, w.alloc (.cells #[.nilFunc, .nilFunc] 95) = w1 := ⟨_, rfl⟩
  obtain ⟨b1, t1⟩ := alloc1 hw1
  have B1 := Lib.hid b1
  have T1 := Lib.hid t1
  have s0 := store_at (P := Tryz.prog) (v := .func (.func 92) #[] #[]) (cell_blk (o := 0) b1) (frozen_blk (o := 0) b1) rfl
  have b2 := heap_setCell_at b1 0 (.func (.func 92) #[] #[])
  have s1 := store_at (P := Tryz.prog) (v := .func (.func 93) #[] #[]) (cell_blk (o := 1) b2) (frozen_blk (o := 1) b2) rfl
  clear b1 t1 b2
  go_enter Tryz.func66, Tryz.ntmps66
  go_wp2_with fail
  refine bodyPost_ret (v := .agg #[.func (.func 92) #[] #[], .func (.func 93) #[] #[]]) (results_cell_row rfl _ _ w.heap.size 95 _ (0, 0) _ rfl (two_set _ _ B1.out) Tryz.underlying95 rfl (by kernel_rfl)) rfl ?_
  exact ⟨_, _, rfl, ⟨rfl, rfl⟩, (T1.out.setCell (p := ⟨w.heap.size, 0, none⟩) (.inr (Nat.le_refl _)) _).setCell (p := ⟨w.heap.size, 1, none⟩) (.inr (Nat.le_refl _)) _⟩
theorem mk_made (w : World) : Calls Tryz.prog 67 #[] w (MakeP .made w) := by
  obtain ⟨w1, hw1⟩ : ∃ w1, w.alloc (.cells #[.nilFunc, .nilFunc] 95) = w1 := ⟨_, rfl⟩
  obtain ⟨b1, t1⟩ := alloc1 hw1
  have B1 := Lib.hid b1
  have T1 := Lib.hid t1
  have s0 := store_at (P := Tryz.prog) (v := .func (.func 94) #[] #[]) (cell_blk (o := 0) b1) (frozen_blk (o := 0) b1) rfl
  have b2 := heap_setCell_at b1 0 (.func (.func 94) #[] #[])
  have s1 := store_at (P := Tryz.prog) (v := .func (.func 95) #[] #[]) (cell_blk (o := 1) b2) (frozen_blk (o := 1) b2) rfl
  clear b1 t1 b2
  go_enter Tryz.func67, Tryz.ntmps67
  go_wp2_with fail
  refine bodyPost_ret (v := .agg #[.func (.func 94) #[] #[], .func (.func 95) #[] #[]]) (results_cell_row rfl _ _ w.heap.size 95 _ (0, 0) _ rfl (two_set _ _ B1.out) Tryz.underlying95 rfl (by kernel_rfl)) rfl ?_
  exact ⟨_, _, rfl, ⟨rfl, rfl⟩, (T1.out.setCell (p := ⟨w.heap.size, 0, none⟩) (.inr (Nat.le_refl _)) _).setCell (p := ⟨w.heap.size, 1, none⟩) (.inr (Nat.le_refl _)) _⟩
theorem mk_child (w : World) : Calls Tryz.prog 68 #[] w (MakeP .child w) := by
  obtain ⟨w1, hw1⟩ : ∃ w1, w.alloc (.cells #[.nilFunc, .nilFunc] 95) = w1 := ⟨_, rfl⟩
  obtain ⟨b1, t1⟩ := alloc1 hw1
  have B1 := Lib.hid b1
  have T1 := Lib.hid t1
  have s0 := store_at (P := Tryz.prog) (v := .func (.func 96) #[] #[]) (cell_blk (o := 0) b1) (frozen_blk (o := 0) b1) rfl
  have b2 := heap_setCell_at b1 0 (.func (.func 96) #[] #[])
  have s1 := store_at (P := Tryz.prog) (v := .func (.func 97) #[] #[]) (cell_blk (o := 1) b2) (frozen_blk (o := 1) b2) rfl
  clear b1 t1 b2
  go_enter Tryz.func68, Tryz.ntmps68
  go_wp2_with fail
  refine bodyPost_ret (v := .agg #[.func (.func 96) #[] #[], .func (.func 97) #[] #[]]) (results_cell_row rfl _ _ w.heap.size 95 _ (0, 0) _ rfl (two_set _ _ B1.out) Tryz.underlying95 rfl (by kernel_rfl)) rfl ?_
  exact ⟨_, _, rfl, ⟨rfl, rfl⟩, (T1.out.setCell (p := ⟨w.heap.size, 0, none⟩) (.inr (Nat.le_refl _)) _).setCell (p := ⟨w.heap.size, 1, none⟩) (.inr (Nat.le_refl _)) _⟩
theorem mk_place (w : World) : Calls Tryz.prog 69 #[] w (MakeP .place w) := by
  obtain ⟨w1, hw1⟩ : ∃ w1, w.alloc (.cells #[.nilFunc, .nilFunc] 95) = w1 := ⟨_, rfl⟩
  obtain ⟨b1, t1⟩ := alloc1 hw1
  have B1 := Lib.hid b1
  have T1 := Lib.hid t1
  have s0 := store_at (P := Tryz.prog) (v := .func (.func 98) #[] #[]) (cell_blk (o := 0) b1) (frozen_blk (o := 0) b1) rfl
  have b2 := heap_setCell_at b1 0 (.func (.func 98) #[] #[])
  have s1 := store_at (P := Tryz.prog) (v := .func (.func 99) #[] #[]) (cell_blk (o := 1) b2) (frozen_blk (o := 1) b2) rfl
  clear b1 t1 b2
  go_enter Tryz.func69, Tryz.ntmps69
  go_wp2_with fail
  refine bodyPost_ret (v := .agg #[.func (.func 98) #[] #[], .func (.func 99) #[] #[]]) (results_cell_row rfl _ _ w.heap.size 95 _ (0, 0) _ rfl (two_set _ _ B1.out) Tryz.underlying95 rfl (by kernel_rfl)) rfl ?_
  exact ⟨_, _, rfl, ⟨rfl, rfl⟩, (T1.out.setCell (p := ⟨w.heap.size, 0, none⟩) (.inr (Nat.le_refl _)) _).setCell (p := ⟨w.heap.size, 1, none⟩) (.inr (Nat.le_refl _)) _⟩
theorem mk_label (w : World) : Calls Tryz.prog 70 #[] w (MakeP .label w) := by
  have hmf : ∀ (fn : Fn) (first cap : Array Value) (w : World), (Instr.makeFunc fn first cap).run Tryz.prog w = .ok (.func fn first cap) w := fun _ _ _ _ => rfl
  obtain ⟨w1, hw1⟩ : ∃ w1, w.alloc (.cells #[.nilFunc, .nilFunc] 95) = w1 := ⟨_, rfl⟩
  obtain ⟨b1, t1⟩ := alloc1 hw1
  obtain ⟨w2, hw2⟩ : ∃ w2, w1.alloc (.cells #[.nilFunc] 120) = w2 := ⟨_, rfl⟩
  obtain ⟨b2, t2⟩ := alloc1 hw2
  have hsz : w1.heap.size = w.heap.size + 1 := by rw [← hw1, World.size_alloc]
  rw [hsz] at b2
  have s2 := store_at (P := Tryz.prog) (v := .func (.func 100) #[] #[]) (cell_blk (o := 0) b2) (frozen_blk (o := 0) b2) rfl
  obtain ⟨w3, hw3⟩ : ∃ w3, w2.setCell ⟨w.heap.size + 1, 0, none⟩ (.func (.func 100) #[] #[]) = w3 := ⟨_, rfl⟩
  rw [hw3] at s2
  have b3 : w3.heap[w.heap.size]? = some (.cells #[.nilFunc, .nilFunc] 95) := by rw [← hw3]; exact blk_set ((t2.block _ (heap_lt b1) (fun h => h)).trans b1) (by omega)
  have x3 : BoxAt w3 (w.heap.size + 1) 100 120 := by rw [← hw3]; exact heap_setCell_at b2 0 _
  have t3 : Turn Nn w w3 := by rw [← hw3]; exact (t1.trans t2).setCell (p := ⟨w.heap.size + 1, 0, none⟩) (.inr (by show w.heap.size ≤ w.heap.size + 1; omega)) _
  have B3 := Lib.hid b3
  have X3 := Lib.hid x3
  have T3 := Lib.hid t3
  obtain ⟨V1, hV1⟩ : ∃ V, Value.func (.func 101) #[] #[.pointer (some ⟨w.heap.size + 1, 0, none⟩)] = V := ⟨_, rfl⟩
  obtain ⟨V2, hV2⟩ : ∃ V, Value.func (.func 102) #[] #[.pointer (some ⟨w.heap.size + 1, 0, none⟩)] = V := ⟨_, rfl⟩
  have o1 : V1.oneCell' = true := by rw [← hV1]; rfl
  have o2 : V2.oneCell' = true := by rw [← hV2]; rfl
  have s0 := store_at (P := Tryz.prog) (v := V1) (cell_blk (o := 0) b3) (frozen_blk (o := 0) b3) o1
  have b4 := heap_setCell_at b3 0 V1
  have s1 := store_at (P := Tryz.prog) (v := V2) (cell_blk (o := 1) b4) (frozen_blk (o := 1) b4) o2
  rw [← hV1] at s0 s1
  rw [← hV2] at s1
  clear b1 t1 b2 t2 b3 x3 t3 b4 hw3 o1 o2 hV1 hV2
  go_enter Tryz.func70, Tryz.ntmps70
  go_wp2_with fail
  refine bodyPost_ret (v := .agg #[.func (.func 101) #[] #[.pointer (some ⟨w.heap.size + 1, 0, none⟩)], .func (.func 102) #[] #[.pointer (some ⟨w.heap.size + 1, 0, none⟩)]]) (results_cell_row rfl _ _ w.heap.size 95 _ (0, 0) _ rfl (two_set _ _ B3.out) Tryz.underlying95 rfl (by kernel_rfl)) rfl ?_
  refine ⟨_, _, rfl, ⟨w.heap.size + 1, rfl, rfl, ?_⟩, (T3.out.setCell (p := ⟨w.heap.size, 0, none⟩) (.inr (Nat.le_refl _)) _).setCell (p := ⟨w.heap.size, 1, none⟩) (.inr (Nat.le_refl _)) _⟩
  exact blk_set (blk_set X3.out (by omega)) (by omega)
theorem mk_handed (w : World) : Calls Tryz.prog 71 #[] w (MakeP .handed w) := by
  have hmf : ∀ (fn : Fn) (first cap : Array Value) (w : World), (Instr.makeFunc fn first cap).run Tryz.prog w = .ok (.func fn first cap) w := fun _ _ _ _ => rfl
  obtain ⟨w1, hw1⟩ : ∃ w1, w.alloc (.cells #[.nilFunc, .nilFunc] 95) = w1 := ⟨_, rfl⟩
  obtain ⟨b1, t1⟩ := alloc1 hw1
  obtain ⟨w2, hw2⟩ : ∃ w2, w1.alloc (.cells #[.nilFunc] 29) = w2 := ⟨_, rfl⟩
  obtain ⟨b2, t2⟩ := alloc1 hw2
  have hsz : w1.heap.size = w.heap.size + 1 := by rw [← hw1, World.size_alloc]
  rw [hsz] at b2
  have s2 := store_at (P := Tryz.prog) (v := .func (.func 103) #[] #[]) (cell_blk (o := 0) b2) (frozen_blk (o := 0) b2) rfl
  obtain ⟨w3, hw3⟩ : ∃ w3, w2.setCell ⟨w.heap.size + 1, 0, none⟩ (.func (.func 103) #[] #[]) = w3 := ⟨_, rfl⟩
  rw [hw3] at s2
  have b3 : w3.heap[w.heap.size]? = some (.cells #[.nilFunc, .nilFunc] 95) := by rw [← hw3]; exact blk_set ((t2.block _ (heap_lt b1) (fun h => h)).trans b1) (by omega)
  have x3 : BoxAt w3 (w.heap.size + 1) 103 29 := by rw [← hw3]; exact heap_setCell_at b2 0 _
  have t3 : Turn Nn w w3 := by rw [← hw3]; exact (t1.trans t2).setCell (p := ⟨w.heap.size + 1, 0, none⟩) (.inr (by show w.heap.size ≤ w.heap.size + 1; omega)) _
  have B3 := Lib.hid b3
  have X3 := Lib.hid x3
  have T3 := Lib.hid t3
  obtain ⟨V1, hV1⟩ : ∃ V, Value.func (.func 104) #[] #[.pointer (some ⟨w.heap.size + 1, 0, none⟩)] = V := ⟨_, rfl⟩
  obtain ⟨V2, hV2⟩ : ∃ V, Value.func (.func 105) #[] #[.pointer (some ⟨w.heap.size + 1, 0, none⟩)] = V := ⟨_, rfl⟩
  have o1 : V1.oneCell' = true := by rw [← hV1]; rfl
  have o2 : V2.oneCell' = true := by rw [← hV2]; rfl
  have s0 := store_at (P := Tryz.prog) (v := V1) (cell_blk (o := 0) b3) (frozen_blk (o := 0) b3) o1
  have b4 := heap_setCell_at b3 0 V1
  have s1 := store_at (P := Tryz.prog) (v := V2) (cell_blk (o := 1) b4) (frozen_blk (o := 1) b4) o2
  rw [← hV1] at s0 s1
  rw [← hV2] at s1
  clear b1 t1 b2 t2 b3 x3 t3 b4 hw3 o1 o2 hV1 hV2
  go_enter Tryz.func71, Tryz.ntmps71
  go_wp2_with fail
  refine bodyPost_ret (v := .agg #[.func (.func 104) #[] #[.pointer (some ⟨w.heap.size + 1, 0, none⟩)], .func (.func 105) #[] #[.pointer (some ⟨w.heap.size + 1, 0, none⟩)]]) (results_cell_row rfl _ _ w.heap.size 95 _ (0, 0) _ rfl (two_set _ _ B3.out) Tryz.underlying95 rfl (by kernel_rfl)) rfl ?_
  refine ⟨_, _, rfl, ⟨w.heap.size + 1, rfl, rfl, ?_⟩, (T3.out.setCell (p := ⟨w.heap.size, 0, none⟩) (.inr (Nat.le_refl _)) _).setCell (p := ⟨w.heap.size, 1, none⟩) (.inr (Nat.le_refl _)) _⟩
  exact blk_set (blk_set X3.out (by omega)) (by omega)
end
section
open Go.RowKit Go.Shelf

/-- A row's fields. -/
def FSl (w : World) (v : Value) : List Fld → Prop
  | [] => v = .slice none 0 0
  | [f] => ∃ b t r, v = .slice (some ⟨b, 0, none⟩) 1 1 ∧ w.heap[b]? = some (.cells #[t, r] 95) ∧ FV w f t r
  | [f, g] => ∃ b t r t' r', v = .slice (some ⟨b, 0, none⟩) 2 2 ∧ w.heap[b]? = some (.cells #[t, r, t', r'] 95) ∧ FV w f t r ∧ FV w g t' r'
  | _ => False
theorem FSl.turn {w w' : World} {v : Value} {l : List Fld} (h : FSl w v l) (k : Turn Nn w w') : FSl w' v l := by
  match l, h with
  | [], h => exact h
  | [f], ⟨b, t, r, h1, h2, h3⟩ => exact ⟨b, t, r, h1, (k.block b (heap_lt h2) (fun h => h)).trans h2, h3.turn k⟩
  | [f, g], ⟨b, t, r, t', r', h1, h2, h3, h4⟩ => exact ⟨b, t, r, t', r', h1, (k.block b (heap_lt h2) (fun h => h)).trans h2, h3.turn k, h4.turn k⟩
def rowC (r : RowD) (v : Value) : List Value := [.int .i64 r.kind, .int .i64 r.tag, .string (BT r.word), .string (BT r.msg), v]
/-- The rows lie at block R. -/
def RowsAt (w : World) (R : Nat) : Prop := ∃ vs : List Value, vs.length = 13 ∧ w.heap[R]? = some (.cells ((rowsD.zip vs).flatMap fun p => rowC p.1 p.2).toArray 70) ∧ ∀ p ∈ rowsD.zip vs, FSl w p.2 p.1.flds
theorem RowsAt.turn {w w' : World} {R : Nat} (h : RowsAt w R) (k : Turn Nn w w') : RowsAt w' R := by
  obtain ⟨vs, h0, h1, h2⟩ := h
  exact ⟨vs, h0, (k.block R (heap_lt h1) (fun h => h)).trans h1, fun p hp => (h2 p hp).turn k⟩
theorem flat5 : ∀ (l : List (RowD × Value)) (i j : Nat) (p : RowD × Value), l[i]? = some p → j < 5 → (l.flatMap fun p => rowC p.1 p.2)[5 * i + j]? = (rowC p.1 p.2)[j]?
  | [], i, j, p, h, _ => by simp at h
  | q :: l, 0, j, p, h, hj => by
    simp at h
    subst h
    rw [List.flatMap_cons, List.getElem?_append_left (by simp [rowC]; omega)]
    simp
  | q :: l, i + 1, j, p, h, hj => by
    have h : l[i]? = some p := by simpa using h
    rw [List.flatMap_cons, List.getElem?_append_right (by simp [rowC]; omega)]
    have : 5 * (i + 1) + j - (rowC q.1 q.2).length = 5 * i + j := by simp [rowC]; omega
    rw [this]
    exact flat5 l i j p h hj
/-- A row's cells. -/
theorem RowsAt.row {w : World} {R i : Nat} {r : RowD} (h : RowsAt w R) (hi : rowsD[i]? = some r) :
    ∃ v, FSl w v r.flds ∧ w.cell? ⟨R, 5 * i, none⟩ = some (.int .i64 r.kind) ∧ w.cell? ⟨R, 5 * i + 1, none⟩ = some (.int .i64 r.tag) ∧ w.cell? ⟨R, 5 * i + 2, none⟩ = some (.string (BT r.word)) ∧ w.cell? ⟨R, 5 * i + 3, none⟩ = some (.string (BT r.msg)) ∧ w.cell? ⟨R, 5 * i + 4, none⟩ = some v := by
  obtain ⟨vs, h0, h1, h2⟩ := h
  have hlt : i < 13 := by
    have := (List.getElem?_eq_some_iff.1 hi).1
    exact this
  have hv : vs[i]? = some vs[i] := List.getElem?_eq_getElem (by omega)
  have hz : (rowsD.zip vs)[i]? = some (r, vs[i]) := by
    rw [List.getElem?_zip_eq_some]
    exact ⟨hi, hv⟩
  have key : ∀ j, j < 5 → w.cell? ⟨R, 5 * i + j, none⟩ = (rowC r vs[i])[j]? := fun j hj => by
    rw [cell_blk h1, List.getElem?_toArray]
    exact flat5 _ i j _ hz hj
  exact ⟨vs[i], h2 _ (List.mem_of_getElem? hz), key 0 (by omega), key 1 (by omega), key 2 (by omega), key 3 (by omega), key 4 (by omega)⟩
set_option maxRecDepth 100000 in
set_option maxHeartbeats 40000000 in
theorem rows_any (w : World) : Calls Tryz.prog 42 #[] w fun e w' => ∃ R, e = .returned (.slice (some ⟨R, 0, none⟩) 13 13) ∧ w.heap.size ≤ R ∧ RowsAt w' R ∧ Turn Nn w w' := by
  have T0 := Lib.hid (Turn.refl Nn w)
  go_enter Tryz.func42, Tryz.ntmps42
  go_wp2_with fail
  refine (mk_word _).mono ?_
  rintro e a1 ⟨t0_0, r0_0, rfl, h0_0, k⟩
  have T1 := Lib.hid (T0.out.trans k)
  clear k
  have HH := Lib.hid (h0_0)
  clear h0_0
  go_wp2_with fail
  generalize hX : World.alloc a1 _ = b0
  obtain ⟨bx, k⟩ := alloc1 hX
  have T1b := Lib.hid (T1.out.trans k)
  have F0 : Hid (FSl b0 (.slice (some ⟨a1.heap.size, 0, none⟩) 1 1) [.word]) := Lib.hid ⟨_, _, _, rfl, bx, HH.out.turn k⟩
  clear hX bx k HH
  obtain ⟨n0, hn⟩ : ∃ n, a1.heap.size = n := ⟨_, rfl⟩
  rw [hn] at F0 ⊢
  clear hn
  refine (mk_made _).mono ?_
  rintro e a2 ⟨t1_0, r1_0, rfl, h1_0, k⟩
  have T2 := Lib.hid (T1b.out.trans k)
  have F0 := Lib.hid (F0.out.turn k)
  clear k
  have HH := Lib.hid (h1_0)
  clear h1_0
  go_wp2_with fail
  generalize hX : World.alloc a2 _ = b1
  obtain ⟨bx, k⟩ := alloc1 hX
  have T2b := Lib.hid (T2.out.trans k)
  have F0 := Lib.hid (F0.out.turn k)
  have F1 : Hid (FSl b1 (.slice (some ⟨a2.heap.size, 0, none⟩) 1 1) [.made]) := Lib.hid ⟨_, _, _, rfl, bx, HH.out.turn k⟩
  clear hX bx k HH
  obtain ⟨n1, hn⟩ : ∃ n, a2.heap.size = n := ⟨_, rfl⟩
  rw [hn] at F1 ⊢
  clear hn
  refine (mk_child _).mono ?_
  rintro e a3 ⟨t2_0, r2_0, rfl, h2_0, k⟩
  have T3 := Lib.hid (T2b.out.trans k)
  have F0 := Lib.hid (F0.out.turn k)
  have F1 := Lib.hid (F1.out.turn k)
  clear k
  have HH := Lib.hid (h2_0)
  clear h2_0
  go_wp2_with fail
  generalize hX : World.alloc a3 _ = b2
  obtain ⟨bx, k⟩ := alloc1 hX
  have T3b := Lib.hid (T3.out.trans k)
  have F0 := Lib.hid (F0.out.turn k)
  have F1 := Lib.hid (F1.out.turn k)
  have F2 : Hid (FSl b2 (.slice (some ⟨a3.heap.size, 0, none⟩) 1 1) [.child]) := Lib.hid ⟨_, _, _, rfl, bx, HH.out.turn k⟩
  clear hX bx k HH
  obtain ⟨n2, hn⟩ : ∃ n, a3.heap.size = n := ⟨_, rfl⟩
  rw [hn] at F2 ⊢
  clear hn
  refine (mk_place _).mono ?_
  rintro e a4 ⟨t3_0, r3_0, rfl, h3_0, k⟩
  have T4 := Lib.hid (T3b.out.trans k)
  have F0 := Lib.hid (F0.out.turn k)
  have F1 := Lib.hid (F1.out.turn k)
  have F2 := Lib.hid (F2.out.turn k)
  clear k
  have HH := Lib.hid (h3_0)
  clear h3_0
  go_wp2_with fail
  generalize hX : World.alloc a4 _ = b3
  obtain ⟨bx, k⟩ := alloc1 hX
  have T4b := Lib.hid (T4.out.trans k)
  have F0 := Lib.hid (F0.out.turn k)
  have F1 := Lib.hid (F1.out.turn k)
  have F2 := Lib.hid (F2.out.turn k)
  have F3 : Hid (FSl b3 (.slice (some ⟨a4.heap.size, 0, none⟩) 1 1) [.place]) := Lib.hid ⟨_, _, _, rfl, bx, HH.out.turn k⟩
  clear hX bx k HH
  obtain ⟨n3, hn⟩ : ∃ n, a4.heap.size = n := ⟨_, rfl⟩
  rw [hn] at F3 ⊢
  clear hn
  refine (mk_place _).mono ?_
  rintro e a5 ⟨t4_0, r4_0, rfl, h4_0, k⟩
  have T5 := Lib.hid (T4b.out.trans k)
  have F0 := Lib.hid (F0.out.turn k)
  have F1 := Lib.hid (F1.out.turn k)
  have F2 := Lib.hid (F2.out.turn k)
  have F3 := Lib.hid (F3.out.turn k)
  clear k
  have H4_0 := Lib.hid h4_0
  clear h4_0
  go_wp2_with fail
  have h4_0 := H4_0.out
  clear H4_0
  refine (mk_word _).mono ?_
  rintro e a6 ⟨t4_1, r4_1, rfl, h4_1, k⟩
  have T6 := Lib.hid (T5.out.trans k)
  have h4_0 := h4_0.turn k
  have F0 := Lib.hid (F0.out.turn k)
  have F1 := Lib.hid (F1.out.turn k)
  have F2 := Lib.hid (F2.out.turn k)
  have F3 := Lib.hid (F3.out.turn k)
  clear k
  have HH := Lib.hid ((⟨h4_0, h4_1⟩ : _ ∧ _))
  clear h4_0 h4_1
  go_wp2_with fail
  generalize hX : World.alloc a6 _ = b4
  obtain ⟨bx, k⟩ := alloc1 hX
  have T6b := Lib.hid (T6.out.trans k)
  have F0 := Lib.hid (F0.out.turn k)
  have F1 := Lib.hid (F1.out.turn k)
  have F2 := Lib.hid (F2.out.turn k)
  have F3 := Lib.hid (F3.out.turn k)
  have F4 : Hid (FSl b4 (.slice (some ⟨a6.heap.size, 0, none⟩) 2 2) [.place, .word]) := Lib.hid ⟨_, _, _, _, _, rfl, bx, HH.out.1.turn k, HH.out.2.turn k⟩
  clear hX bx k HH
  obtain ⟨n4, hn⟩ : ∃ n, a6.heap.size = n := ⟨_, rfl⟩
  rw [hn] at F4 ⊢
  clear hn
  refine (mk_place _).mono ?_
  rintro e a7 ⟨t5_0, r5_0, rfl, h5_0, k⟩
  have T7 := Lib.hid (T6b.out.trans k)
  have F0 := Lib.hid (F0.out.turn k)
  have F1 := Lib.hid (F1.out.turn k)
  have F2 := Lib.hid (F2.out.turn k)
  have F3 := Lib.hid (F3.out.turn k)
  have F4 := Lib.hid (F4.out.turn k)
  clear k
  have H5_0 := Lib.hid h5_0
  clear h5_0
  go_wp2_with fail
  have h5_0 := H5_0.out
  clear H5_0
  refine (mk_label _).mono ?_
  rintro e a8 ⟨t5_1, r5_1, rfl, h5_1, k⟩
  have T8 := Lib.hid (T7.out.trans k)
  have h5_0 := h5_0.turn k
  have F0 := Lib.hid (F0.out.turn k)
  have F1 := Lib.hid (F1.out.turn k)
  have F2 := Lib.hid (F2.out.turn k)
  have F3 := Lib.hid (F3.out.turn k)
  have F4 := Lib.hid (F4.out.turn k)
  clear k
  have HH := Lib.hid ((⟨h5_0, h5_1⟩ : _ ∧ _))
  clear h5_0 h5_1
  go_wp2_with fail
  generalize hX : World.alloc a8 _ = b5
  obtain ⟨bx, k⟩ := alloc1 hX
  have T8b := Lib.hid (T8.out.trans k)
  have F0 := Lib.hid (F0.out.turn k)
  have F1 := Lib.hid (F1.out.turn k)
  have F2 := Lib.hid (F2.out.turn k)
  have F3 := Lib.hid (F3.out.turn k)
  have F4 := Lib.hid (F4.out.turn k)
  have F5 : Hid (FSl b5 (.slice (some ⟨a8.heap.size, 0, none⟩) 2 2) [.place, .label]) := Lib.hid ⟨_, _, _, _, _, rfl, bx, HH.out.1.turn k, HH.out.2.turn k⟩
  clear hX bx k HH
  obtain ⟨n5, hn⟩ : ∃ n, a8.heap.size = n := ⟨_, rfl⟩
  rw [hn] at F5 ⊢
  clear hn
  refine (mk_place _).mono ?_
  rintro e a9 ⟨t6_0, r6_0, rfl, h6_0, k⟩
  have T9 := Lib.hid (T8b.out.trans k)
  have F0 := Lib.hid (F0.out.turn k)
  have F1 := Lib.hid (F1.out.turn k)
  have F2 := Lib.hid (F2.out.turn k)
  have F3 := Lib.hid (F3.out.turn k)
  have F4 := Lib.hid (F4.out.turn k)
  have F5 := Lib.hid (F5.out.turn k)
  clear k
  have H6_0 := Lib.hid h6_0
  clear h6_0
  go_wp2_with fail
  have h6_0 := H6_0.out
  clear H6_0
  refine (mk_handed _).mono ?_
  rintro e a10 ⟨t6_1, r6_1, rfl, h6_1, k⟩
  have T10 := Lib.hid (T9.out.trans k)
  have h6_0 := h6_0.turn k
  have F0 := Lib.hid (F0.out.turn k)
  have F1 := Lib.hid (F1.out.turn k)
  have F2 := Lib.hid (F2.out.turn k)
  have F3 := Lib.hid (F3.out.turn k)
  have F4 := Lib.hid (F4.out.turn k)
  have F5 := Lib.hid (F5.out.turn k)
  clear k
  have HH := Lib.hid ((⟨h6_0, h6_1⟩ : _ ∧ _))
  clear h6_0 h6_1
  go_wp2_with fail
  generalize hX : World.alloc a10 _ = b6
  obtain ⟨bx, k⟩ := alloc1 hX
  have T10b := Lib.hid (T10.out.trans k)
  have F0 := Lib.hid (F0.out.turn k)
  have F1 := Lib.hid (F1.out.turn k)
  have F2 := Lib.hid (F2.out.turn k)
  have F3 := Lib.hid (F3.out.turn k)
  have F4 := Lib.hid (F4.out.turn k)
  have F5 := Lib.hid (F5.out.turn k)
  have F6 : Hid (FSl b6 (.slice (some ⟨a10.heap.size, 0, none⟩) 2 2) [.place, .handed]) := Lib.hid ⟨_, _, _, _, _, rfl, bx, HH.out.1.turn k, HH.out.2.turn k⟩
  clear hX bx k HH
  obtain ⟨n6, hn⟩ : ∃ n, a10.heap.size = n := ⟨_, rfl⟩
  rw [hn] at F6 ⊢
  clear hn
  refine (mk_place _).mono ?_
  rintro e a11 ⟨t7_0, r7_0, rfl, h7_0, k⟩
  have T11 := Lib.hid (T10b.out.trans k)
  have F0 := Lib.hid (F0.out.turn k)
  have F1 := Lib.hid (F1.out.turn k)
  have F2 := Lib.hid (F2.out.turn k)
  have F3 := Lib.hid (F3.out.turn k)
  have F4 := Lib.hid (F4.out.turn k)
  have F5 := Lib.hid (F5.out.turn k)
  have F6 := Lib.hid (F6.out.turn k)
  clear k
  have H7_0 := Lib.hid h7_0
  clear h7_0
  go_wp2_with fail
  have h7_0 := H7_0.out
  clear H7_0
  refine (mk_word _).mono ?_
  rintro e a12 ⟨t7_1, r7_1, rfl, h7_1, k⟩
  have T12 := Lib.hid (T11.out.trans k)
  have h7_0 := h7_0.turn k
  have F0 := Lib.hid (F0.out.turn k)
  have F1 := Lib.hid (F1.out.turn k)
  have F2 := Lib.hid (F2.out.turn k)
  have F3 := Lib.hid (F3.out.turn k)
  have F4 := Lib.hid (F4.out.turn k)
  have F5 := Lib.hid (F5.out.turn k)
  have F6 := Lib.hid (F6.out.turn k)
  clear k
  have HH := Lib.hid ((⟨h7_0, h7_1⟩ : _ ∧ _))
  clear h7_0 h7_1
  go_wp2_with fail
  generalize hX : World.alloc a12 _ = b7
  obtain ⟨bx, k⟩ := alloc1 hX
  have T12b := Lib.hid (T12.out.trans k)
  have F0 := Lib.hid (F0.out.turn k)
  have F1 := Lib.hid (F1.out.turn k)
  have F2 := Lib.hid (F2.out.turn k)
  have F3 := Lib.hid (F3.out.turn k)
  have F4 := Lib.hid (F4.out.turn k)
  have F5 := Lib.hid (F5.out.turn k)
  have F6 := Lib.hid (F6.out.turn k)
  have F7 : Hid (FSl b7 (.slice (some ⟨a12.heap.size, 0, none⟩) 2 2) [.place, .word]) := Lib.hid ⟨_, _, _, _, _, rfl, bx, HH.out.1.turn k, HH.out.2.turn k⟩
  clear hX bx k HH
  obtain ⟨n7, hn⟩ : ∃ n, a12.heap.size = n := ⟨_, rfl⟩
  rw [hn] at F7 ⊢
  clear hn
  refine (mk_place _).mono ?_
  rintro e a13 ⟨t8_0, r8_0, rfl, h8_0, k⟩
  have T13 := Lib.hid (T12b.out.trans k)
  have F0 := Lib.hid (F0.out.turn k)
  have F1 := Lib.hid (F1.out.turn k)
  have F2 := Lib.hid (F2.out.turn k)
  have F3 := Lib.hid (F3.out.turn k)
  have F4 := Lib.hid (F4.out.turn k)
  have F5 := Lib.hid (F5.out.turn k)
  have F6 := Lib.hid (F6.out.turn k)
  have F7 := Lib.hid (F7.out.turn k)
  clear k
  have H8_0 := Lib.hid h8_0
  clear h8_0
  go_wp2_with fail
  have h8_0 := H8_0.out
  clear H8_0
  refine (mk_label _).mono ?_
  rintro e a14 ⟨t8_1, r8_1, rfl, h8_1, k⟩
  have T14 := Lib.hid (T13.out.trans k)
  have h8_0 := h8_0.turn k
  have F0 := Lib.hid (F0.out.turn k)
  have F1 := Lib.hid (F1.out.turn k)
  have F2 := Lib.hid (F2.out.turn k)
  have F3 := Lib.hid (F3.out.turn k)
  have F4 := Lib.hid (F4.out.turn k)
  have F5 := Lib.hid (F5.out.turn k)
  have F6 := Lib.hid (F6.out.turn k)
  have F7 := Lib.hid (F7.out.turn k)
  clear k
  have HH := Lib.hid ((⟨h8_0, h8_1⟩ : _ ∧ _))
  clear h8_0 h8_1
  go_wp2_with fail
  generalize hX : World.alloc a14 _ = b8
  obtain ⟨bx, k⟩ := alloc1 hX
  have T14b := Lib.hid (T14.out.trans k)
  have F0 := Lib.hid (F0.out.turn k)
  have F1 := Lib.hid (F1.out.turn k)
  have F2 := Lib.hid (F2.out.turn k)
  have F3 := Lib.hid (F3.out.turn k)
  have F4 := Lib.hid (F4.out.turn k)
  have F5 := Lib.hid (F5.out.turn k)
  have F6 := Lib.hid (F6.out.turn k)
  have F7 := Lib.hid (F7.out.turn k)
  have F8 : Hid (FSl b8 (.slice (some ⟨a14.heap.size, 0, none⟩) 2 2) [.place, .label]) := Lib.hid ⟨_, _, _, _, _, rfl, bx, HH.out.1.turn k, HH.out.2.turn k⟩
  clear hX bx k HH
  obtain ⟨n8, hn⟩ : ∃ n, a14.heap.size = n := ⟨_, rfl⟩
  rw [hn] at F8 ⊢
  clear hn
  refine (mk_place _).mono ?_
  rintro e a15 ⟨t9_0, r9_0, rfl, h9_0, k⟩
  have T15 := Lib.hid (T14b.out.trans k)
  have F0 := Lib.hid (F0.out.turn k)
  have F1 := Lib.hid (F1.out.turn k)
  have F2 := Lib.hid (F2.out.turn k)
  have F3 := Lib.hid (F3.out.turn k)
  have F4 := Lib.hid (F4.out.turn k)
  have F5 := Lib.hid (F5.out.turn k)
  have F6 := Lib.hid (F6.out.turn k)
  have F7 := Lib.hid (F7.out.turn k)
  have F8 := Lib.hid (F8.out.turn k)
  clear k
  have H9_0 := Lib.hid h9_0
  clear h9_0
  go_wp2_with fail
  have h9_0 := H9_0.out
  clear H9_0
  refine (mk_handed _).mono ?_
  rintro e a16 ⟨t9_1, r9_1, rfl, h9_1, k⟩
  have T16 := Lib.hid (T15.out.trans k)
  have h9_0 := h9_0.turn k
  have F0 := Lib.hid (F0.out.turn k)
  have F1 := Lib.hid (F1.out.turn k)
  have F2 := Lib.hid (F2.out.turn k)
  have F3 := Lib.hid (F3.out.turn k)
  have F4 := Lib.hid (F4.out.turn k)
  have F5 := Lib.hid (F5.out.turn k)
  have F6 := Lib.hid (F6.out.turn k)
  have F7 := Lib.hid (F7.out.turn k)
  have F8 := Lib.hid (F8.out.turn k)
  clear k
  have HH := Lib.hid ((⟨h9_0, h9_1⟩ : _ ∧ _))
  clear h9_0 h9_1
  go_wp2_with fail
  go_ret
  obtain ⟨bx, k1⟩ := alloc1 (w := a16) (a := .cells #[t9_0, r9_0, t9_1, r9_1] 95) rfl
  have k2 : ∀ o, Turn Nn a16 ((a16.alloc (.cells #[t9_0, r9_0, t9_1, r9_1] 95)).alloc o) := fun o => k1.alloc o
  refine ⟨a16.heap.size + 1, rfl, by have := T16.out.size; omega, ⟨[.slice none 0 0, .slice none 0 0, .slice none 0 0, .slice (some ⟨n0, 0, none⟩) 1 1, .slice (some ⟨n1, 0, none⟩) 1 1, .slice (some ⟨n2, 0, none⟩) 1 1, .slice (some ⟨n3, 0, none⟩) 1 1, .slice (some ⟨n4, 0, none⟩) 2 2, .slice (some ⟨n5, 0, none⟩) 2 2, .slice (some ⟨n6, 0, none⟩) 2 2, .slice (some ⟨n7, 0, none⟩) 2 2, .slice (some ⟨n8, 0, none⟩) 2 2, .slice (some ⟨a16.heap.size, 0, none⟩) 2 2], rfl, ?_, ?_⟩, T16.out.trans (k2 _)⟩
  · have := World.alloc_heap_new (World.alloc a16 (.cells #[t9_0, r9_0, t9_1, r9_1] 95)) (.cells ((rowsD.zip ([.slice none 0 0, .slice none 0 0, .slice none 0 0, .slice (some ⟨n0, 0, none⟩) 1 1, .slice (some ⟨n1, 0, none⟩) 1 1, .slice (some ⟨n2, 0, none⟩) 1 1, .slice (some ⟨n3, 0, none⟩) 1 1, .slice (some ⟨n4, 0, none⟩) 2 2, .slice (some ⟨n5, 0, none⟩) 2 2, .slice (some ⟨n6, 0, none⟩) 2 2, .slice (some ⟨n7, 0, none⟩) 2 2, .slice (some ⟨n8, 0, none⟩) 2 2, .slice (some ⟨a16.heap.size, 0, none⟩) 2 2] : List Value)).flatMap fun p => rowC p.1 p.2).toArray 70)
    rw [World.size_alloc] at this
    exact this
  · intro p hp
    simp only [rowsD, List.zip_cons_cons, List.zip_nil_right, List.mem_cons, List.not_mem_nil, or_false] at hp
    rcases hp with rfl | rfl | rfl | rfl | rfl | rfl | rfl | rfl | rfl | rfl | rfl | rfl | rfl
    · exact rfl
    · exact rfl
    · exact rfl
    · exact F0.out.turn (k2 _)
    · exact F1.out.turn (k2 _)
    · exact F2.out.turn (k2 _)
    · exact F3.out.turn (k2 _)
    · exact F4.out.turn (k2 _)
    · exact F5.out.turn (k2 _)
    · exact F6.out.turn (k2 _)
    · exact F7.out.turn (k2 _)
    · exact F8.out.turn (k2 _)
    · exact ⟨_, _, _, _, _, rfl, ((Turn.refl Nn (a16.alloc _)).alloc _).block _ (heap_lt bx) (fun h => h) |>.trans bx, HH.out.1.turn (k2 _), HH.out.2.turn (k2 _)⟩
end
end Go.Proofs.YtpbjblbeepbklaaGreatDoor
