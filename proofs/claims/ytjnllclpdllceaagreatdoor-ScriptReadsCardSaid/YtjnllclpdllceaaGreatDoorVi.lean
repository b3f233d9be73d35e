/- drafted: a script out of a draft: the head. Printed by gen_vi.py. -/
import Derived.Test.YtjnllclpdllceaaGreatDoorVk
import Derived.Deep.DeepCutAuto
import Derived.OwnWalk
namespace Go.Proofs.YtjnllclpdllceaaGreatDoor
set_option linter.unusedSimpArgs false
set_option linter.unusedVariables false
open Go.RowKit Go.Shelf

/-- A slice of bytes. -/
def BSl (w : World) (v : Value) (l : Bs) : Prop :=
  ∃ pa cap, v = .slice pa l.length cap ∧ l.length ≤ cap ∧ ∀ n, n ≤ l.length → ∀ W, Turn Nn w W → (convert 28 9 (.slice pa n cap)).run Tryz.prog W = .ok (.string (BT (l.take n))) W

theorem cells7 {W : World} {B : Nat} {x0 x1 x2 x3 x4 x5 x6 : Value} {t1 : TypeId} (h1 : W.heap[B]? = some (.cells #[x0, x1, x2, x3, x4, x5, x6] t1)) :
    W.cell? ⟨B, 0, none⟩ = some x0 ∧ W.cell? ⟨B, 1, none⟩ = some x1 ∧ W.cell? ⟨B, 2, none⟩ = some x2 ∧ W.cell? ⟨B, 3, none⟩ = some x3 ∧ W.cell? ⟨B, 4, none⟩ = some x4 ∧ W.cell? ⟨B, 5, none⟩ = some x5 ∧ W.cell? ⟨B, 6, none⟩ = some x6 :=
  ⟨by rw [cell_blk h1]; rfl, by rw [cell_blk h1]; rfl, by rw [cell_blk h1]; rfl, by rw [cell_blk h1]; rfl, by rw [cell_blk h1]; rfl, by rw [cell_blk h1]; rfl, by rw [cell_blk h1]; rfl⟩

/-- A slice of arrays of three bytes. -/
def ASl (w : World) (v : Value) (N : Nat) : Prop :=
  ∃ pt ct, v = .slice pt N ct ∧ N ≤ ct ∧ ∀ i, i < N → ∃ b o, ∃ x y z : Nat, pt = some ⟨b, o, none⟩ ∧ x < 256 ∧ y < 256 ∧ z < 256 ∧ w.cell? ⟨b, o + i * 3, none⟩ = some (.int .u8 (x : Int)) ∧ w.cell? ⟨b, o + i * 3 + 1, none⟩ = some (.int .u8 (y : Int)) ∧ w.cell? ⟨b, o + i * 3 + 2, none⟩ = some (.int .u8 (z : Int))

theorem cells3 {W : World} {B : Nat} {x0 x1 x2 : Value} {t1 : TypeId} (h1 : W.heap[B]? = some (.cells #[x0, x1, x2] t1)) :
    W.cell? ⟨B, 0, none⟩ = some x0 ∧ W.cell? ⟨B, 1, none⟩ = some x1 ∧ W.cell? ⟨B, 2, none⟩ = some x2 :=
  ⟨by rw [cell_blk h1]; rfl, by rw [cell_blk h1]; rfl, by rw [cell_blk h1]; rfl⟩

theorem push26b {w2 W : World} {x0 x1 x2 x3 x4 v : Value} {ts : List TurnD} {k a c : Int} {j : Nat} (h : DI w2 x0 x1 x2 x3 x4 v ts W) (hn : ts.length ≤ 4096) (ty : TypeId) (b7 : W.heap[j]? = some (.cells #[.int .i64 k, .int .i64 a, .int .i64 c] 60)) :
    ∃ pa nn cap W', (Builtin.append_ #[24, 24] ty #[v, .slice (some ⟨W.heap.size, 0, none⟩) 1 1]).run Tryz.prog (W.alloc (.cells #[.int .i64 k, .int .i64 a, .int .i64 c] 60)) = .ok (.slice pa nn cap) W' ∧
      W'.cell? ⟨w2.heap.size, 5, none⟩ = some v ∧ W'.frozen? ⟨w2.heap.size, 5, none⟩ = false ∧ DI w2 x0 x1 x2 x3 x4 (.slice pa nn cap) (ts ++ [⟨k, a, c⟩]) (W'.setCell ⟨w2.heap.size, 5, none⟩ (.slice pa nn cap)) := by
  obtain ⟨v', W', h1, h2, h3, h4⟩ := push26 (k := k) (a := a) (c := c) h hn ty
  obtain ⟨pa, nn, cap, rfl⟩ := h4.shape
  exact ⟨pa, nn, cap, W', h1, h2, h3, h4⟩

theorem push26b' {w2 W : World} {x0 x1 x2 x3 x4 v : Value} {ts : List TurnD} {k a c : Int} (h : DI w2 x0 x1 x2 x3 x4 v ts W) (hn : ts.length ≤ 4096) (ty : TypeId) :
    ∃ pa nn cap W', (Builtin.append_ #[24, 24] ty #[v, .slice (some ⟨W.heap.size, 0, none⟩) 1 1]).run Tryz.prog (W.alloc (.cells #[.int .i64 k, .int .i64 a, .int .i64 c] 60)) = .ok (.slice pa nn cap) W' ∧
      W'.cell? ⟨w2.heap.size, 5, none⟩ = some v ∧ W'.frozen? ⟨w2.heap.size, 5, none⟩ = false ∧ DI w2 x0 x1 x2 x3 x4 (.slice pa nn cap) (ts ++ [⟨k, a, c⟩]) (W'.setCell ⟨w2.heap.size, 5, none⟩ (.slice pa nn cap)) := by
  obtain ⟨v', W', h1, h2, h3, h4⟩ := push26 (k := k) (a := a) (c := c) h hn ty
  obtain ⟨pa, nn, cap, rfl⟩ := h4.shape
  exact ⟨pa, nn, cap, W', h1, h2, h3, h4⟩

/-- What the head's region reads. -/
def DS (B a0 a1 a2 : Nat) (tw : Bool) (pm : Option Addr) (m n cm : Nat) (str : ByteArray) (u : World) : Prop :=
  u.cell? ⟨B, 0, none⟩ = some (.int .u8 (a0 : Int)) ∧ u.cell? ⟨B, 1, none⟩ = some (.int .u8 (a1 : Int)) ∧ u.cell? ⟨B, 2, none⟩ = some (.int .u8 (a2 : Int)) ∧ u.cell? ⟨B, 3, none⟩ = some (.bool tw) ∧ u.cell? ⟨B, 4, none⟩ = some (.slice pm m cm) ∧
  (convert 28 9 (.slice pm n cm)).run Tryz.prog u = .ok (.string str) u

/-- The draft's box. -/
def dcells (a0 a1 a2 : Nat) (tw : Bool) (m t : Value) (odd : Nat) : Array Value := #[.int .u8 (a0 : Int), .int .u8 (a1 : Int), .int .u8 (a2 : Int), .bool tw, m, t, .int .u8 (odd : Int)]
def zcells : Array Value := #[.int .i64 0, .int .i64 0, .int .i64 0, .bool false, .string ⟨#[]⟩, .slice none 0 0]

theorem DS.of {B a0 a1 a2 odd m n cm : Nat} {tw : Bool} {pm : Option Addr} {tv : Value} {str : ByteArray} {u W : World} (h : u.heap[B]? = some (.cells (dcells a0 a1 a2 tw (.slice pm m cm) tv odd) 31)) (t : Turn Nn u W)
    (hc : (convert 28 9 (.slice pm n cm)).run Tryz.prog W = .ok (.string str) W) : DS B a0 a1 a2 tw pm m n cm str W := by
  obtain ⟨c0, c1, c2, c3, c4, _⟩ := cells7 ((t.block _ (heap_lt h) (fun h => h)).trans h)
  exact ⟨c0, c1, c2, c3, c4, hc⟩

set_option maxRecDepth 100000 in
set_option maxHeartbeats 8000000 in
theorem drafted_own {a0 a1 a2 odd N : Nat} {tw : Bool} {mv tv : Value} {l : Bs} {w : World} (h0 : a0 < 256) (h1 : a1 < 256) (h2 : a2 < 256) (ho : odd < 256) (hm : BSl w mv l) (hl : l.length ≤ 9223372036854775807) (ht : ASl w tv N) (hN : N ≤ 9223372036854775807) :
    Calls Tryz.prog 10 #[.agg (dcells a0 a1 a2 tw mv tv odd)] w (DraftOwn w) := by
  obtain ⟨pm, cm, rfl, hlc, hconv⟩ := hm
  obtain ⟨pt, ct, rfl, hNc, htur⟩ := ht
  have HTUR := Lib.hid htur
  clear htur
  obtain ⟨w2, hw2⟩ : ∃ w2, (w.alloc (.cells (dcells a0 a1 a2 tw (.slice pm l.length cm) (.slice pt N ct) odd) 31)).alloc (.cells zcells 26) = w2 := ⟨_, rfl⟩
  obtain ⟨b0, b1, t2⟩ := alloc2 hw2
  obtain ⟨n, hn⟩ : ∃ n, min l.length 3000 = n := ⟨_, rfl⟩
  have hnl : n ≤ l.length := by omega
  have hnc : n ≤ cm := by omega
  have hmin : ∀ W, (Builtin.min_ #[3, 3] 3 #[.int .i64 l.length, .int .i64 3000]).run Tryz.prog W = .ok (.int .i64 (n : Int)) W := fun W => by
    rw [run_min_int2]
    congr 2
    split <;> omega
  obtain ⟨m, hm⟩ : ∃ m, l.length = m := ⟨_, rfl⟩
  obtain ⟨str, hstr⟩ : ∃ str, BT (l.take n) = str := ⟨_, rfl⟩
  rw [hm] at hmin hlc hnl hl b0 hw2
  rw [hm]
  have t3 : Turn Nn w2 (w2.drew.alloc (.cells zcells 26)) := (Turn.refl Nn w2).drew.alloc _
  obtain ⟨w3, hw3⟩ : ∃ w3, w2.drew.alloc (.cells zcells 26) = w3 := ⟨_, rfl⟩
  have b3 : w3.heap[w2.heap.size]? = some (.cells zcells 26) := by rw [← hw3]; exact World.alloc_heap_new _ _
  rw [hw3] at t3
  have HS2 : Hid (DS w.heap.size a0 a1 a2 tw pm m n cm str w2.drew) := Lib.hid (DS.of b0 (Turn.refl Nn w2).drew (by rw [hconv n (by omega) _ t2.drew, hstr]))
  have HS3 : Hid (DS w.heap.size a0 a1 a2 tw pm m n cm str w3) := Lib.hid (DS.of b0 t3 (by rw [hconv n (by omega) _ (t2.trans t3), hstr]))
  have B0 := Lib.hid b0
  have B1 := Lib.hid b1
  have HB2 : Hid (w.heap.size + 1 < w2.heap.size) := Lib.hid (heap_lt b1)
  have B3 := Lib.hid b3
  have T2 := Lib.hid t2
  have T3 := Lib.hid t3
  have HN := Lib.hid hn
  have HM := Lib.hid hm
  have HSTR := Lib.hid hstr
  have HCONV := Lib.hid hconv
  clear b0 b1 b3 t2 t3 hn hm hstr hconv
  simp only [dcells, zcells] at hw2 hw3 ⊢
  go_enter Tryz.func10, Tryz.ntmps10
  go_upto_region 1 with (fail)
  obtain ⟨k0, hk0⟩ : ∃ k0 : Int, 1 + (a0 : Int) % 64 = k0 := ⟨_, rfl⟩
  obtain ⟨k1, hk1⟩ : ∃ k1 : Int, 1 + (a1 : Int) % 32 = k1 := ⟨_, rfl⟩
  obtain ⟨k2, hk2⟩ : ∃ k2 : Int, 1 + (a2 : Int) % 16 = k2 := ⟨_, rfl⟩
  obtain ⟨r0, hr0⟩ : ∃ r0 : Int, (a0 : Int).tmod 64 = r0 := ⟨_, rfl⟩
  obtain ⟨r1, hr1⟩ : ∃ r1 : Int, (a1 : Int).tmod 32 = r1 := ⟨_, rfl⟩
  obtain ⟨r2, hr2⟩ : ∃ r2 : Int, (a2 : Int).tmod 16 = r2 := ⟨_, rfl⟩
  have hx0 : IntKind.i64.wrap (a0 : Int) = a0 := by rw [IntKind.wrap_i64]; omega
  have hx1 : IntKind.i64.wrap (a1 : Int) = a1 := by rw [IntKind.wrap_i64]; omega
  have hx2 : IntKind.i64.wrap (a2 : Int) = a2 := by rw [IntKind.wrap_i64]; omega
  have hy0 : IntKind.i64.wrap (1 + r0) = k0 := by rw [← hr0, ← hk0, Int.tmod_eq_emod_of_nonneg (by omega), IntKind.wrap_i64]; omega
  have hy1 : IntKind.i64.wrap (1 + r1) = k1 := by rw [← hr1, ← hk1, Int.tmod_eq_emod_of_nonneg (by omega), IntKind.wrap_i64]; omega
  have hy2 : IntKind.i64.wrap (1 + r2) = k2 := by rw [← hr2, ← hk2, Int.tmod_eq_emod_of_nonneg (by omega), IntKind.wrap_i64]; omega
  have K0 := Lib.hid hk0
  have K1 := Lib.hid hk1
  have K2 := Lib.hid hk2
  clear hk0 hk1 hk2
  refine held_begin (DS w.heap.size a0 a1 a2 tw pm m n cm str) (by kernel_rfl) ?_
  refine held_take 0 ?_ rfl (by kernel_rfl) (by kernel_rfl) (by kernel_rfl) (fun _ _ _ h => h) (Or.inl ⟨by kernel_rfl, ?_⟩) HS2.out ?_
  rotate_left 1
  · intro u hu; obtain ⟨y0, y1, y2, y3, y4, y5⟩ := hu; go_simp; first | done | with_reducible rfl
  try simp only [Act.put, List.getElem_toArray, List.getElem_cons_succ, List.getElem_cons_zero, List.setIfInBounds_toArray, List.set_cons_succ, List.set_cons_zero]
  refine held_take 1 ?_ rfl (by kernel_rfl) (by kernel_rfl) (by kernel_rfl) (fun _ _ _ h => h) (Or.inl ⟨by kernel_rfl, ?_⟩) HS2.out ?_
  rotate_left 1
  · intro u hu; obtain ⟨y0, y1, y2, y3, y4, y5⟩ := hu; go_simp; first | done | with_reducible rfl
  try simp only [Act.put, List.getElem_toArray, List.getElem_cons_succ, List.getElem_cons_zero, List.setIfInBounds_toArray, List.set_cons_succ, List.set_cons_zero]
  refine held_take 2 ?_ rfl (by kernel_rfl) (by kernel_rfl) (by kernel_rfl) (fun _ _ _ h => h) (Or.inl ⟨by kernel_rfl, ?_⟩) HS2.out ?_
  rotate_left 1
  · intro u hu; obtain ⟨y0, y1, y2, y3, y4, y5⟩ := hu; go_simp; first | done | with_reducible rfl
  try simp only [Act.put, List.getElem_toArray, List.getElem_cons_succ, List.getElem_cons_zero, List.setIfInBounds_toArray, List.set_cons_succ, List.set_cons_zero]
  refine held_take 3 ?_ rfl (by kernel_rfl) (by kernel_rfl) (by kernel_rfl) (fun _ _ _ h => h) (Or.inl ⟨by kernel_rfl, ?_⟩) HS2.out ?_
  rotate_left 1
  · intro u hu; obtain ⟨y0, y1, y2, y3, y4, y5⟩ := hu; go_simp; first | done | with_reducible rfl
  try simp only [Act.put, List.getElem_toArray, List.getElem_cons_succ, List.getElem_cons_zero, List.setIfInBounds_toArray, List.set_cons_succ, List.set_cons_zero]
  refine held_take 4 ?_ rfl (by kernel_rfl) (by kernel_rfl) (by kernel_rfl) (fun _ _ _ h => h) (Or.inl ⟨by kernel_rfl, ?_⟩) HS2.out ?_
  rotate_left 1
  · intro u hu; obtain ⟨y0, y1, y2, y3, y4, y5⟩ := hu; go_simp; first | done | with_reducible rfl
  try simp only [Act.put, List.getElem_toArray, List.getElem_cons_succ, List.getElem_cons_zero, List.setIfInBounds_toArray, List.set_cons_succ, List.set_cons_zero]
  refine held_take 5 ?_ rfl (by kernel_rfl) (by kernel_rfl) (by kernel_rfl) (fun _ _ _ h => h) (Or.inl ⟨by kernel_rfl, ?_⟩) HS2.out ?_
  rotate_left 1
  · intro u hu; obtain ⟨y0, y1, y2, y3, y4, y5⟩ := hu; go_simp; first | done | with_reducible rfl
  try simp only [Act.put, List.getElem_toArray, List.getElem_cons_succ, List.getElem_cons_zero, List.setIfInBounds_toArray, List.set_cons_succ, List.set_cons_zero]
  refine held_take 6 ?_ rfl (by kernel_rfl) (by kernel_rfl) (by kernel_rfl) (fun _ _ _ h => h) (Or.inl ⟨by kernel_rfl, ?_⟩) HS2.out ?_
  rotate_left 1
  · intro u hu; obtain ⟨y0, y1, y2, y3, y4, y5⟩ := hu; go_simp; first | done | with_reducible rfl
  try simp only [Act.put, List.getElem_toArray, List.getElem_cons_succ, List.getElem_cons_zero, List.setIfInBounds_toArray, List.set_cons_succ, List.set_cons_zero]
  refine held_take 7 ?_ rfl (by kernel_rfl) (by kernel_rfl) (by kernel_rfl) (fun _ _ _ h => h) (Or.inl ⟨by kernel_rfl, ?_⟩) HS2.out ?_
  rotate_left 1
  · intro u hu; obtain ⟨y0, y1, y2, y3, y4, y5⟩ := hu; go_simp; first | done | with_reducible rfl
  try simp only [Act.put, List.getElem_toArray, List.getElem_cons_succ, List.getElem_cons_zero, List.setIfInBounds_toArray, List.set_cons_succ, List.set_cons_zero]
  refine held_take 8 ?_ rfl (by kernel_rfl) (by kernel_rfl) (by kernel_rfl) (fun _ _ _ h => h) (Or.inl ⟨by kernel_rfl, ?_⟩) HS2.out ?_
  rotate_left 1
  · intro u hu; obtain ⟨y0, y1, y2, y3, y4, y5⟩ := hu; go_simp; first | done | with_reducible rfl
  try simp only [Act.put, List.getElem_toArray, List.getElem_cons_succ, List.getElem_cons_zero, List.setIfInBounds_toArray, List.set_cons_succ, List.set_cons_zero]
  refine held_take 9 ?_ rfl (by kernel_rfl) (by kernel_rfl) (by kernel_rfl) (fun _ _ _ h => h) (Or.inl ⟨by kernel_rfl, ?_⟩) HS2.out ?_
  rotate_left 1
  · intro u hu; obtain ⟨y0, y1, y2, y3, y4, y5⟩ := hu; go_simp; first | done | with_reducible rfl
  try simp only [Act.put, List.getElem_toArray, List.getElem_cons_succ, List.getElem_cons_zero, List.setIfInBounds_toArray, List.set_cons_succ, List.set_cons_zero]
  refine held_take 10 ?_ rfl (by kernel_rfl) (by kernel_rfl) (by kernel_rfl) (fun _ _ _ h => h) (Or.inl ⟨by kernel_rfl, ?_⟩) HS2.out ?_
  rotate_left 1
  · intro u hu; obtain ⟨y0, y1, y2, y3, y4, y5⟩ := hu; go_simp; first | done | with_reducible rfl
  try simp only [Act.put, List.getElem_toArray, List.getElem_cons_succ, List.getElem_cons_zero, List.setIfInBounds_toArray, List.set_cons_succ, List.set_cons_zero]
  refine held_take 11 ?_ rfl (by kernel_rfl) (by kernel_rfl) (by kernel_rfl) (fun _ _ _ h => h) (Or.inl ⟨by kernel_rfl, ?_⟩) HS2.out ?_
  rotate_left 1
  · intro u hu; obtain ⟨y0, y1, y2, y3, y4, y5⟩ := hu; go_simp; first | done | with_reducible rfl
  try simp only [Act.put, List.getElem_toArray, List.getElem_cons_succ, List.getElem_cons_zero, List.setIfInBounds_toArray, List.set_cons_succ, List.set_cons_zero]
  refine held_take 12 ?_ rfl (by kernel_rfl) (by kernel_rfl) (by kernel_rfl) (fun _ _ _ h => h) (Or.inl ⟨by kernel_rfl, ?_⟩) HS2.out ?_
  rotate_left 1
  · intro u hu; obtain ⟨y0, y1, y2, y3, y4, y5⟩ := hu; go_simp; first | done | with_reducible rfl
  try simp only [Act.put, List.getElem_toArray, List.getElem_cons_succ, List.getElem_cons_zero, List.setIfInBounds_toArray, List.set_cons_succ, List.set_cons_zero]
  refine held_take 13 ?_ rfl (by kernel_rfl) (by kernel_rfl) (by kernel_rfl) (fun _ _ _ h => h) (Or.inl ⟨by kernel_rfl, ?_⟩) HS2.out ?_
  rotate_left 1
  · intro u hu; obtain ⟨y0, y1, y2, y3, y4, y5⟩ := hu; go_simp; first | done | with_reducible rfl
  try simp only [Act.put, List.getElem_toArray, List.getElem_cons_succ, List.getElem_cons_zero, List.setIfInBounds_toArray, List.set_cons_succ, List.set_cons_zero]
  refine held_take 14 ?_ rfl (by kernel_rfl) (by kernel_rfl) (by kernel_rfl) (fun _ _ _ h => h) (Or.inl ⟨by kernel_rfl, ?_⟩) HS2.out ?_
  rotate_left 1
  · intro u hu; obtain ⟨y0, y1, y2, y3, y4, y5⟩ := hu; go_simp; first | done | with_reducible rfl
  try simp only [Act.put, List.getElem_toArray, List.getElem_cons_succ, List.getElem_cons_zero, List.setIfInBounds_toArray, List.set_cons_succ, List.set_cons_zero]
  refine held_take 15 ?_ rfl (by kernel_rfl) (by kernel_rfl) (by kernel_rfl) (fun _ _ _ h => h) (Or.inl ⟨by kernel_rfl, ?_⟩) HS2.out ?_
  rotate_left 1
  · intro u hu; obtain ⟨y0, y1, y2, y3, y4, y5⟩ := hu; go_simp; first | done | with_reducible rfl
  try simp only [Act.put, List.getElem_toArray, List.getElem_cons_succ, List.getElem_cons_zero, List.setIfInBounds_toArray, List.set_cons_succ, List.set_cons_zero]
  refine held_take 16 ?_ rfl (by kernel_rfl) (by kernel_rfl) (by kernel_rfl) (fun _ _ _ h => h) (Or.inl ⟨by kernel_rfl, ?_⟩) HS2.out ?_
  rotate_left 1
  · intro u hu; obtain ⟨y0, y1, y2, y3, y4, y5⟩ := hu; go_simp; first | done | with_reducible rfl
  try simp only [Act.put, List.getElem_toArray, List.getElem_cons_succ, List.getElem_cons_zero, List.setIfInBounds_toArray, List.set_cons_succ, List.set_cons_zero]
  refine held_take 17 ?_ rfl (by kernel_rfl) (by kernel_rfl) (by kernel_rfl) (fun _ _ _ h => h) (Or.inl ⟨by kernel_rfl, ?_⟩) HS2.out ?_
  rotate_left 1
  · intro u hu; obtain ⟨y0, y1, y2, y3, y4, y5⟩ := hu; go_simp; first | done | with_reducible rfl
  try simp only [Act.put, List.getElem_toArray, List.getElem_cons_succ, List.getElem_cons_zero, List.setIfInBounds_toArray, List.set_cons_succ, List.set_cons_zero]
  refine held_take 18 ?_ rfl (by kernel_rfl) (by kernel_rfl) (by kernel_rfl) (fun _ _ _ h => h) (Or.inl ⟨by kernel_rfl, ?_⟩) HS2.out ?_
  rotate_left 1
  · intro u hu; obtain ⟨y0, y1, y2, y3, y4, y5⟩ := hu; go_simp; first | done | with_reducible rfl
  try simp only [Act.put, List.getElem_toArray, List.getElem_cons_succ, List.getElem_cons_zero, List.setIfInBounds_toArray, List.set_cons_succ, List.set_cons_zero]
  refine held_take 19 ?_ rfl (by kernel_rfl) (by kernel_rfl) (by kernel_rfl) (fun _ _ _ h => h) (Or.inl ⟨by kernel_rfl, ?_⟩) HS2.out ?_
  rotate_left 1
  · intro u hu; obtain ⟨y0, y1, y2, y3, y4, y5⟩ := hu; go_simp; first | done | with_reducible rfl
  try simp only [Act.put, List.getElem_toArray, List.getElem_cons_succ, List.getElem_cons_zero, List.setIfInBounds_toArray, List.set_cons_succ, List.set_cons_zero]
  refine held_take 20 ?_ rfl (by kernel_rfl) (by kernel_rfl) (by kernel_rfl) (fun _ _ _ h => h) (Or.inl ⟨by kernel_rfl, ?_⟩) HS2.out ?_
  rotate_left 1
  · intro u hu; obtain ⟨y0, y1, y2, y3, y4, y5⟩ := hu; go_simp; first | done | with_reducible rfl
  try simp only [Act.put, List.getElem_toArray, List.getElem_cons_succ, List.getElem_cons_zero, List.setIfInBounds_toArray, List.set_cons_succ, List.set_cons_zero]
  refine held_take 21 ?_ rfl (by kernel_rfl) (by kernel_rfl) (by kernel_rfl) (fun _ _ _ h => h) (Or.inl ⟨by kernel_rfl, ?_⟩) HS2.out ?_
  rotate_left 1
  · intro u hu; obtain ⟨y0, y1, y2, y3, y4, y5⟩ := hu; go_simp; first | done | with_reducible rfl
  try simp only [Act.put, List.getElem_toArray, List.getElem_cons_succ, List.getElem_cons_zero, List.setIfInBounds_toArray, List.set_cons_succ, List.set_cons_zero]
  refine held_take 22 ?_ rfl (by kernel_rfl) (by kernel_rfl) (by kernel_rfl) (fun _ _ _ h => h) (Or.inl ⟨by kernel_rfl, ?_⟩) HS2.out ?_
  rotate_left 1
  · intro u hu; obtain ⟨y0, y1, y2, y3, y4, y5⟩ := hu; go_simp; first | done | with_reducible rfl
  try simp only [Act.put, List.getElem_toArray, List.getElem_cons_succ, List.getElem_cons_zero, List.setIfInBounds_toArray, List.set_cons_succ, List.set_cons_zero]
  refine held_take 23 ?_ rfl (by kernel_rfl) (by kernel_rfl) (by kernel_rfl) (fun _ _ _ h => h) (Or.inl ⟨by kernel_rfl, ?_⟩) HS2.out ?_
  rotate_left 1
  · intro u hu; obtain ⟨y0, y1, y2, y3, y4, y5⟩ := hu; go_simp; first | done | with_reducible rfl
  try simp only [Act.put, List.getElem_toArray, List.getElem_cons_succ, List.getElem_cons_zero, List.setIfInBounds_toArray, List.set_cons_succ, List.set_cons_zero]
  refine held_take 24 ?_ rfl (by kernel_rfl) (by kernel_rfl) (by kernel_rfl) (fun _ _ _ h => h) (Or.inl ⟨by kernel_rfl, ?_⟩) HS2.out ?_
  rotate_left 1
  · intro u hu; obtain ⟨y0, y1, y2, y3, y4, y5⟩ := hu; go_simp; first | done | with_reducible rfl
  try simp only [Act.put, List.getElem_toArray, List.getElem_cons_succ, List.getElem_cons_zero, List.setIfInBounds_toArray, List.set_cons_succ, List.set_cons_zero]
  refine held_take 25 ?_ rfl (by kernel_rfl) (by kernel_rfl) (by kernel_rfl) (fun _ _ _ h => h) (Or.inl ⟨by kernel_rfl, ?_⟩) HS2.out ?_
  rotate_left 1
  · intro u hu; obtain ⟨y0, y1, y2, y3, y4, y5⟩ := hu; go_simp; first | done | with_reducible rfl
  try simp only [Act.put, List.getElem_toArray, List.getElem_cons_succ, List.getElem_cons_zero, List.setIfInBounds_toArray, List.set_cons_succ, List.set_cons_zero]
  refine held_take 26 ?_ rfl (by kernel_rfl) (by kernel_rfl) (by kernel_rfl) (fun _ _ _ h => h) (Or.inl ⟨by kernel_rfl, ?_⟩) HS2.out ?_
  rotate_left 1
  · intro u hu; obtain ⟨y0, y1, y2, y3, y4, y5⟩ := hu; go_simp; first | done | with_reducible rfl
  try simp only [Act.put, List.getElem_toArray, List.getElem_cons_succ, List.getElem_cons_zero, List.setIfInBounds_toArray, List.set_cons_succ, List.set_cons_zero]
  refine held_take 27 ?_ rfl (by kernel_rfl) (by kernel_rfl) (by kernel_rfl) (fun _ _ _ h => h) (Or.inl ⟨by kernel_rfl, ?_⟩) HS2.out ?_
  rotate_left 1
  · intro u hu; obtain ⟨y0, y1, y2, y3, y4, y5⟩ := hu; go_simp; first | done | with_reducible rfl
  try simp only [Act.put, List.getElem_toArray, List.getElem_cons_succ, List.getElem_cons_zero, List.setIfInBounds_toArray, List.set_cons_succ, List.set_cons_zero]
  refine held_take 28 ?_ rfl (by kernel_rfl) (by kernel_rfl) (by kernel_rfl) (fun _ _ _ h => h) (Or.inl ⟨by kernel_rfl, ?_⟩) HS2.out ?_
  rotate_left 1
  · intro u hu; obtain ⟨y0, y1, y2, y3, y4, y5⟩ := hu; go_simp; first | done | with_reducible rfl
  try simp only [Act.put, List.getElem_toArray, List.getElem_cons_succ, List.getElem_cons_zero, List.setIfInBounds_toArray, List.set_cons_succ, List.set_cons_zero]
  refine held_take 29 ?_ rfl (by kernel_rfl) (by kernel_rfl) (by kernel_rfl) (fun _ _ _ h => h) (Or.inl ⟨by kernel_rfl, ?_⟩) HS2.out ?_
  rotate_left 1
  · intro u hu; obtain ⟨y0, y1, y2, y3, y4, y5⟩ := hu; go_simp; first | done | with_reducible rfl
  try simp only [Act.put, List.getElem_toArray, List.getElem_cons_succ, List.getElem_cons_zero, List.setIfInBounds_toArray, List.set_cons_succ, List.set_cons_zero]
  refine held_one 30 (by kernel_rfl) rfl (by kernel_rfl) (fun Ka hKa => ?_)
  go_simp
  refine hKa _ _ HS3.out ?_
  clear hKa Ka
  try simp only [Act.put, List.getElem_toArray, List.getElem_cons_succ, List.getElem_cons_zero, List.setIfInBounds_toArray, List.set_cons_succ, List.set_cons_zero]
  refine held_one 31 (by kernel_rfl) rfl (by kernel_rfl) (fun Kb hKb => ?_)
  obtain ⟨q0, q1, q2, q3, q4, q5⟩ := cells6 B3.out
  have qf := fun o => frozen_blk (o := o) B3.out
  go_simp
  have D4 := DI.start T3.out (show w3.heap[w2.heap.size]? = some (.cells #[.int .i64 0, .int .i64 0, .int .i64 0, .bool false, .string ⟨#[]⟩, .slice none 0 0] 26) from B3.out) (.int .i64 k0) (.int .i64 k1) (.int .i64 k2) (.bool tw) (.string str)
  generalize hw4 : (((((World.setCell w3 ⟨w2.heap.size, 0, none⟩ (.int .i64 k0)).setCell ⟨w2.heap.size, 1, none⟩ (.int .i64 k1)).setCell ⟨w2.heap.size, 2, none⟩ (.int .i64 k2)).setCell ⟨w2.heap.size, 3, none⟩ (.bool tw)).setCell ⟨w2.heap.size, 4, none⟩ (.string str)).setCell ⟨w2.heap.size, 5, none⟩ (.slice none 0 0) = w4 at D4 ⊢
  have HD4 := Lib.hid D4
  refine hKb _ _ (DS.of B0.out D4.t (by rw [HCONV.out n (by have := HM.out; omega) _ (T2.out.trans D4.t), HSTR.out])) ?_
  clear hKb Kb q0 q1 q2 q3 q4 q5 qf hw4
  try simp only [Act.put, List.getElem_toArray, List.getElem_cons_succ, List.getElem_cons_zero, List.setIfInBounds_toArray, List.set_cons_succ, List.set_cons_zero]
  refine wpAnyH_done (by kernel_rfl) ?_ _
  clear hx0 hx1 hx2 hy0 hy1 hy2 hr0 hr1 hr2 hmin hw2 hw3 hnl hnc hlc HS2 HS3
  obtain ⟨f0, f1, f2, f3, f4, f5, f6⟩ := cells7 ((D4.t.block _ (heap_lt B0.out) (fun h => h)).trans B0.out)
  clear f0 f1 f2 f3 f4 D4
  go_wp2_with fail
  clear f5 f6
  go_loopw [4] (fun i wr => ∃ k : Nat, k ≤ N ∧ k ≤ 100 ∧ i = .int .i64 k ∧ ∃ v ts, List.length ts = k ∧ DI w2 (.int .i64 k0) (.int .i64 k1) (.int .i64 k2) (.bool tw) (.string str) v ts wr) (fun i _ => N - (intOf i).toNat)
  case atStart => exact ⟨0, by omega, by omega, rfl, _, [], rfl, HD4.out⟩
  case round =>
    obtain ⟨k, hkN, hk100, rfl, v, ts, hts, hd⟩ := hrel
    have HD := Lib.hid hd
    have HTS := Lib.hid hts
    clear hts hd
    obtain ⟨f0, f1, f2, f3, f4, f5, f6⟩ := cells7 ((HD.out.t.block _ (heap_lt B0.out) (fun h => h)).trans B0.out)
    clear f0 f1 f2 f3 f4
    by_cases hN1 : k < N
    · by_cases h100 : k < 100
      · obtain ⟨b, o, x, y, z, rfl, hx, hy, hz, c0, c1, c2⟩ := HTUR.out k hN1
        have c0 := cell_turn (T2.out.trans HD.out.t) c0
        have c1 := cell_turn (T2.out.trans HD.out.t) c1
        have c2 := cell_turn (T2.out.trans HD.out.t) c2
        clear f6
        have hwx : IntKind.i64.wrap (x : Int) = x := by rw [IntKind.wrap_i64]; omega
        have hwy : IntKind.i64.wrap (y : Int) = y := by rw [IntKind.wrap_i64]; omega
        have hwz : IntKind.i64.wrap (z : Int) = z := by rw [IntKind.wrap_i64]; omega
        have hkd : x % 4 = 0 ∨ x % 4 = 1 ∨ x % 4 = 2 ∨ x % 4 = 3 := by omega
        rcases hkd with hkd | hkd | hkd | hkd
        · have hki : (x : Int) % 4 = 0 := by omega
          have hkt : (x : Int).tmod 4 = 0 := by rw [Int.tmod_eq_emod_of_nonneg (by omega)]; omega
          clear hkd
          go_upto_region 11 with (fail)
          generalize hW : (World.alloc (World.alloc wr _) _) = W10
          obtain ⟨_, b7, t10⟩ := alloc2 hW
          have d10 := HD.out.turn t10
          obtain ⟨pa, nn, cap, W', hrun, e5, e6, d11⟩ := push26b d10 (by have := HTS.out; omega) 24 b7
          have HD11 := Lib.hid d11
          obtain ⟨u0, u1, u2⟩ := cells3 b7
          obtain ⟨_, _, _, _, _, u5⟩ := cells6 d10.blk
          obtain ⟨pv, nv, cv, hpv⟩ := d10.shape
          clear hW b7 t10 d10 d11 c0 c1 c2 hwx hwy hwz hki hkt f5
          rw [hpv] at hrun e5 u5
          have HR := Lib.hid hrun
          clear hpv hrun
          go_wp2_with (at_builtin; refine wpList_append_eq rfl _ _ 24 rfl _ _ rfl rfl HR.out ?_)
          clear u5 HR
          go_wp2_with fail
          exact ⟨⟨k + 1, by omega, by omega, rfl, _, _, by rw [List.length_append, HTS.out]; rfl, HD11.out⟩, by simp only [intOf]; omega⟩
        · have hki : (x : Int) % 4 = 1 := by omega
          have hkt : (x : Int).tmod 4 = 1 := by rw [Int.tmod_eq_emod_of_nonneg (by omega)]; omega
          clear hkd
          go_upto_region 11 with (fail)
          generalize hW : (World.alloc (World.alloc wr _) _) = W10
          obtain ⟨_, b7, t10⟩ := alloc2 hW
          have d10 := HD.out.turn t10
          obtain ⟨pa, nn, cap, W', hrun, e5, e6, d11⟩ := push26b d10 (by have := HTS.out; omega) 24 b7
          have HD11 := Lib.hid d11
          obtain ⟨u0, u1, u2⟩ := cells3 b7
          obtain ⟨_, _, _, _, _, u5⟩ := cells6 d10.blk
          obtain ⟨pv, nv, cv, hpv⟩ := d10.shape
          clear hW b7 t10 d10 d11 c0 c1 c2 hwx hwy hwz hki hkt f5
          rw [hpv] at hrun e5 u5
          have HR := Lib.hid hrun
          clear hpv hrun
          go_wp2_with (at_builtin; refine wpList_append_eq rfl _ _ 24 rfl _ _ rfl rfl HR.out ?_)
          clear u5 HR
          go_wp2_with fail
          exact ⟨⟨k + 1, by omega, by omega, rfl, _, _, by rw [List.length_append, HTS.out]; rfl, HD11.out⟩, by simp only [intOf]; omega⟩
        · have hki : (x : Int) % 4 = 2 := by omega
          have hkt : (x : Int).tmod 4 = 2 := by rw [Int.tmod_eq_emod_of_nonneg (by omega)]; omega
          clear hkd
          go_upto_region 11 with (fail)
          generalize hW : (World.alloc (World.alloc wr _) _) = W10
          obtain ⟨_, b7, t10⟩ := alloc2 hW
          have d10 := HD.out.turn t10
          obtain ⟨pa, nn, cap, W', hrun, e5, e6, d11⟩ := push26b d10 (by have := HTS.out; omega) 24 b7
          have HD11 := Lib.hid d11
          obtain ⟨u0, u1, u2⟩ := cells3 b7
          obtain ⟨_, _, _, _, _, u5⟩ := cells6 d10.blk
          obtain ⟨pv, nv, cv, hpv⟩ := d10.shape
          clear hW b7 t10 d10 d11 c0 c1 c2 hwx hwy hwz hki hkt f5
          rw [hpv] at hrun e5 u5
          have HR := Lib.hid hrun
          clear hpv hrun
          go_wp2_with (at_builtin; refine wpList_append_eq rfl _ _ 24 rfl _ _ rfl rfl HR.out ?_)
          clear u5 HR
          go_wp2_with fail
          exact ⟨⟨k + 1, by omega, by omega, rfl, _, _, by rw [List.length_append, HTS.out]; rfl, HD11.out⟩, by simp only [intOf]; omega⟩
        · have hki : (x : Int) % 4 = 3 := by omega
          have hkt : (x : Int).tmod 4 = 3 := by rw [Int.tmod_eq_emod_of_nonneg (by omega)]; omega
          clear hkd
          go_upto_region 11 with (fail)
          generalize hW : (World.alloc (World.alloc wr _) _) = W10
          obtain ⟨_, b7, t10⟩ := alloc2 hW
          have d10 := HD.out.turn t10
          obtain ⟨pa, nn, cap, W', hrun, e5, e6, d11⟩ := push26b d10 (by have := HTS.out; omega) 24 b7
          have HD11 := Lib.hid d11
          obtain ⟨u0, u1, u2⟩ := cells3 b7
          obtain ⟨_, _, _, _, _, u5⟩ := cells6 d10.blk
          obtain ⟨pv, nv, cv, hpv⟩ := d10.shape
          clear hW b7 t10 d10 d11 c0 c1 c2 hwx hwy hwz hki hkt f5
          rw [hpv] at hrun e5 u5
          have HR := Lib.hid hrun
          clear hpv hrun
          go_wp2_with (at_builtin; refine wpList_append_eq rfl _ _ 24 rfl _ _ rfl rfl HR.out ?_)
          clear u5 HR
          go_wp2_with fail
          exact ⟨⟨k + 1, by omega, by omega, rfl, _, _, by rw [List.length_append, HTS.out]; rfl, HD11.out⟩, by simp only [intOf]; omega⟩
      · have hd1 : decide ((k : Int) < (N : Int)) = true := decide_eq_true (by omega)
        have hd2 : decide ((k : Int) < 100) = false := decide_eq_false (by omega)
        obtain ⟨q, hq⟩ : ∃ q, odd % 12 = q := ⟨_, rfl⟩
        have hq6 : q = 1 ∨ q = 2 ∨ q = 3 ∨ q = 4 ∨ q = 5 ∨ q = 6 ∨ (q ≠ 1 ∧ q ≠ 2 ∧ q ≠ 3 ∧ q ≠ 4 ∧ q ≠ 5 ∧ q ≠ 6) := by omega
        obtain ⟨pv, nv, cv, rfl⟩ := HD.out.shape
        obtain ⟨g0, g1, g2, g3, g4, g5⟩ := cells6 HD.out.blk
        have gf := fun o => frozen_blk (o := o) HD.out.blk
        rcases hq6 with rfl | rfl | rfl | rfl | rfl | rfl | ⟨n1, n2, n3, n4, n5, n6⟩
        · have hqi : (odd : Int) % 12 = 1 := by omega
          have hqt : (odd : Int).tmod 12 = 1 := by rw [Int.tmod_eq_emod_of_nonneg (by omega)]; omega
          clear hq
          go_upto_region 25 with (fail)
          generalize hW : World.setCell wr _ _ = W5
          have HD5 := Lib.hid (show DI w2 (.int .i64 0) (.int .i64 k1) (.int .i64 k2) (.bool tw) (.string str) (.slice pv nv cv) ts W5 from hW ▸ HD.out.set0 _)
          obtain ⟨g0, g1, g2, g3, g4, g5⟩ := cells6 HD5.out.blk
          obtain ⟨z0, z1, z2, z3, z4, z5⟩ := cells6 ((HD5.out.t.block _ (heap_lt B1.out) (fun h => h)).trans B1.out)
          have zf := fun o => frozen_blk (o := o) ((HD5.out.t.block _ (heap_lt B1.out) (fun h => h)).trans B1.out)
          have B1W := Lib.hid ((HD5.out.t.block _ (heap_lt B1.out) (fun h => h)).trans B1.out)
          clear hW f6 hqi hqt gf
          go_wp2_with fail
          refine bodyPost_ret (v := .agg #[.int .i64 0, .int .i64 k1, .int .i64 k2, .bool tw, .string str, .slice pv nv cv]) ?_ rfl ?_
          · exact draft_res rfl (store6 B1W.out _ _ _ _ _ _)
          · rw [← HSTR.out] at HD5 ⊢
            exact draft_post T2.out HD5.out (by have := HTS.out; omega) (by rw [List.length_take]; have := HN.out; omega) (Nat.le_succ _) HB2.out _ _ _ _ _ _
        · have hqi : (odd : Int) % 12 = 2 := by omega
          have hqt : (odd : Int).tmod 12 = 2 := by rw [Int.tmod_eq_emod_of_nonneg (by omega)]; omega
          clear hq
          go_upto_region 25 with (fail)
          generalize hW : World.setCell wr _ _ = W5
          have HD5 := Lib.hid (show DI w2 (.int .i64 k0) (.int .i64 33) (.int .i64 k2) (.bool tw) (.string str) (.slice pv nv cv) ts W5 from hW ▸ HD.out.set1 _)
          obtain ⟨g0, g1, g2, g3, g4, g5⟩ := cells6 HD5.out.blk
          obtain ⟨z0, z1, z2, z3, z4, z5⟩ := cells6 ((HD5.out.t.block _ (heap_lt B1.out) (fun h => h)).trans B1.out)
          have zf := fun o => frozen_blk (o := o) ((HD5.out.t.block _ (heap_lt B1.out) (fun h => h)).trans B1.out)
          have B1W := Lib.hid ((HD5.out.t.block _ (heap_lt B1.out) (fun h => h)).trans B1.out)
          clear hW f6 hqi hqt gf
          go_wp2_with fail
          refine bodyPost_ret (v := .agg #[.int .i64 k0, .int .i64 33, .int .i64 k2, .bool tw, .string str, .slice pv nv cv]) ?_ rfl ?_
          · exact draft_res rfl (store6 B1W.out _ _ _ _ _ _)
          · rw [← HSTR.out] at HD5 ⊢
            exact draft_post T2.out HD5.out (by have := HTS.out; omega) (by rw [List.length_take]; have := HN.out; omega) (Nat.le_succ _) HB2.out _ _ _ _ _ _
        · have hqi : (odd : Int) % 12 = 3 := by omega
          have hqt : (odd : Int).tmod 12 = 3 := by rw [Int.tmod_eq_emod_of_nonneg (by omega)]; omega
          clear hq
          go_upto_region 25 with (fail)
          generalize hW : World.setCell wr _ _ = W5
          have HD5 := Lib.hid (show DI w2 (.int .i64 k0) (.int .i64 k1) (.int .i64 (-1)) (.bool tw) (.string str) (.slice pv nv cv) ts W5 from hW ▸ HD.out.set2 _)
          obtain ⟨g0, g1, g2, g3, g4, g5⟩ := cells6 HD5.out.blk
          obtain ⟨z0, z1, z2, z3, z4, z5⟩ := cells6 ((HD5.out.t.block _ (heap_lt B1.out) (fun h => h)).trans B1.out)
          have zf := fun o => frozen_blk (o := o) ((HD5.out.t.block _ (heap_lt B1.out) (fun h => h)).trans B1.out)
          have B1W := Lib.hid ((HD5.out.t.block _ (heap_lt B1.out) (fun h => h)).trans B1.out)
          clear hW f6 hqi hqt gf
          go_wp2_with fail
          refine bodyPost_ret (v := .agg #[.int .i64 k0, .int .i64 k1, .int .i64 (-1), .bool tw, .string str, .slice pv nv cv]) ?_ rfl ?_
          · exact draft_res rfl (store6 B1W.out _ _ _ _ _ _)
          · rw [← HSTR.out] at HD5 ⊢
            exact draft_post T2.out HD5.out (by have := HTS.out; omega) (by rw [List.length_take]; have := HN.out; omega) (Nat.le_succ _) HB2.out _ _ _ _ _ _
        · have hqi : (odd : Int) % 12 = 4 := by omega
          have hqt : (odd : Int).tmod 12 = 4 := by rw [Int.tmod_eq_emod_of_nonneg (by omega)]; omega
          clear hq
          obtain ⟨pa, nn, cap, W', hrun, e5, e6, d11⟩ := push26b' (k := 1) (a := 0) (c := 0) HD.out (by have := HTS.out; omega) 24
          have HD11 := Lib.hid d11
          have HR := Lib.hid hrun
          clear hrun d11
          go_upto_region 25 with (at_builtin; refine wpList_append_eq rfl _ _ 24 rfl _ _ rfl rfl HR.out ?_)
          clear g0 g1 g2 g3 g4 g5 gf HR
          generalize hW : World.setCell W' _ _ = W5
          have HD5 := Lib.hid (show DI w2 (.int .i64 k0) (.int .i64 k1) (.int .i64 k2) (.bool tw) (.string str) (.slice pa nn cap) (ts ++ [⟨1, 0, 0⟩]) W5 from hW ▸ HD11.out)
          obtain ⟨g0, g1, g2, g3, g4, g5⟩ := cells6 HD5.out.blk
          obtain ⟨z0, z1, z2, z3, z4, z5⟩ := cells6 ((HD5.out.t.block _ (heap_lt B1.out) (fun h => h)).trans B1.out)
          have zf := fun o => frozen_blk (o := o) ((HD5.out.t.block _ (heap_lt B1.out) (fun h => h)).trans B1.out)
          have B1W := Lib.hid ((HD5.out.t.block _ (heap_lt B1.out) (fun h => h)).trans B1.out)
          clear hW hqi hqt e5 e6
          go_wp2_with fail
          refine bodyPost_ret (v := .agg #[.int .i64 k0, .int .i64 k1, .int .i64 k2, .bool tw, .string str, .slice pa nn cap]) ?_ rfl ?_
          · exact draft_res rfl (store6 B1W.out _ _ _ _ _ _)
          · rw [← HSTR.out] at HD5 ⊢
            exact draft_post T2.out HD5.out (by rw [List.length_append]; have := HTS.out; simp only [List.length_singleton]; omega) (by rw [List.length_take]; have := HN.out; omega) (Nat.le_succ _) HB2.out _ _ _ _ _ _
        · have hqi : (odd : Int) % 12 = 5 := by omega
          have hqt : (odd : Int).tmod 12 = 5 := by rw [Int.tmod_eq_emod_of_nonneg (by omega)]; omega
          clear hq
          obtain ⟨pa, nn, cap, W', hrun, e5, e6, d11⟩ := push26b' (k := 3) (a := 1) (c := 0) HD.out (by have := HTS.out; omega) 24
          have HD11 := Lib.hid d11
          have HR := Lib.hid hrun
          clear hrun d11
          go_upto_region 25 with (at_builtin; refine wpList_append_eq rfl _ _ 24 rfl _ _ rfl rfl HR.out ?_)
          clear g0 g1 g2 g3 g4 g5 gf HR
          generalize hW : World.setCell W' _ _ = W5
          have HD5 := Lib.hid (show DI w2 (.int .i64 k0) (.int .i64 k1) (.int .i64 k2) (.bool tw) (.string str) (.slice pa nn cap) (ts ++ [⟨3, 1, 0⟩]) W5 from hW ▸ HD11.out)
          obtain ⟨g0, g1, g2, g3, g4, g5⟩ := cells6 HD5.out.blk
          obtain ⟨z0, z1, z2, z3, z4, z5⟩ := cells6 ((HD5.out.t.block _ (heap_lt B1.out) (fun h => h)).trans B1.out)
          have zf := fun o => frozen_blk (o := o) ((HD5.out.t.block _ (heap_lt B1.out) (fun h => h)).trans B1.out)
          have B1W := Lib.hid ((HD5.out.t.block _ (heap_lt B1.out) (fun h => h)).trans B1.out)
          clear hW hqi hqt e5 e6
          go_wp2_with fail
          refine bodyPost_ret (v := .agg #[.int .i64 k0, .int .i64 k1, .int .i64 k2, .bool tw, .string str, .slice pa nn cap]) ?_ rfl ?_
          · exact draft_res rfl (store6 B1W.out _ _ _ _ _ _)
          · rw [← HSTR.out] at HD5 ⊢
            exact draft_post T2.out HD5.out (by rw [List.length_append]; have := HTS.out; simp only [List.length_singleton]; omega) (by rw [List.length_take]; have := HN.out; omega) (Nat.le_succ _) HB2.out _ _ _ _ _ _
        · have hqi : (odd : Int) % 12 = 6 := by omega
          have hqt : (odd : Int).tmod 12 = 6 := by rw [Int.tmod_eq_emod_of_nonneg (by omega)]; omega
          clear hq
          obtain ⟨pa, nn, cap, W', hrun, e5, e6, d11⟩ := push26b' (k := 0) (a := 100) (c := 1) HD.out (by have := HTS.out; omega) 24
          have HD11 := Lib.hid d11
          have HR := Lib.hid hrun
          clear hrun d11
          go_upto_region 25 with (at_builtin; refine wpList_append_eq rfl _ _ 24 rfl _ _ rfl rfl HR.out ?_)
          clear g0 g1 g2 g3 g4 g5 gf HR
          generalize hW : World.setCell W' _ _ = W5
          have HD5 := Lib.hid (show DI w2 (.int .i64 k0) (.int .i64 k1) (.int .i64 k2) (.bool tw) (.string str) (.slice pa nn cap) (ts ++ [⟨0, 100, 1⟩]) W5 from hW ▸ HD11.out)
          obtain ⟨g0, g1, g2, g3, g4, g5⟩ := cells6 HD5.out.blk
          obtain ⟨z0, z1, z2, z3, z4, z5⟩ := cells6 ((HD5.out.t.block _ (heap_lt B1.out) (fun h => h)).trans B1.out)
          have zf := fun o => frozen_blk (o := o) ((HD5.out.t.block _ (heap_lt B1.out) (fun h => h)).trans B1.out)
          have B1W := Lib.hid ((HD5.out.t.block _ (heap_lt B1.out) (fun h => h)).trans B1.out)
          clear hW hqi hqt e5 e6
          go_wp2_with fail
          refine bodyPost_ret (v := .agg #[.int .i64 k0, .int .i64 k1, .int .i64 k2, .bool tw, .string str, .slice pa nn cap]) ?_ rfl ?_
          · exact draft_res rfl (store6 B1W.out _ _ _ _ _ _)
          · rw [← HSTR.out] at HD5 ⊢
            exact draft_post T2.out HD5.out (by rw [List.length_append]; have := HTS.out; simp only [List.length_singleton]; omega) (by rw [List.length_take]; have := HN.out; omega) (Nat.le_succ _) HB2.out _ _ _ _ _ _
        · have m1 : ((odd : Int) % 12 == 1) = false := by simp; omega
          have m2 : ((odd : Int) % 12 == 2) = false := by simp; omega
          have m3 : ((odd : Int) % 12 == 3) = false := by simp; omega
          have m4 : ((odd : Int) % 12 == 4) = false := by simp; omega
          have m5 : ((odd : Int) % 12 == 5) = false := by simp; omega
          have m6 : ((odd : Int) % 12 == 6) = false := by simp; omega
          clear n1 n2 n3 n4 n5 n6 hq
          go_upto_region 25 with (fail)
          clear gf
          have HD5 := Lib.hid HD.out
          obtain ⟨g0, g1, g2, g3, g4, g5⟩ := cells6 HD5.out.blk
          obtain ⟨z0, z1, z2, z3, z4, z5⟩ := cells6 ((HD5.out.t.block _ (heap_lt B1.out) (fun h => h)).trans B1.out)
          have zf := fun o => frozen_blk (o := o) ((HD5.out.t.block _ (heap_lt B1.out) (fun h => h)).trans B1.out)
          have B1W := Lib.hid ((HD5.out.t.block _ (heap_lt B1.out) (fun h => h)).trans B1.out)
          clear f6 m1 m2 m3 m4 m5 m6
          go_wp2_with fail
          refine bodyPost_ret (v := .agg #[.int .i64 k0, .int .i64 k1, .int .i64 k2, .bool tw, .string str, .slice pv nv cv]) ?_ rfl ?_
          · exact draft_res rfl (store6 B1W.out _ _ _ _ _ _)
          · rw [← HSTR.out] at HD5 ⊢
            exact draft_post T2.out HD5.out (by have := HTS.out; omega) (by rw [List.length_take]; have := HN.out; omega) (Nat.le_succ _) HB2.out _ _ _ _ _ _
    · have hd1 : decide ((k : Int) < (N : Int)) = false := decide_eq_false (by omega)
      obtain ⟨q, hq⟩ : ∃ q, odd % 12 = q := ⟨_, rfl⟩
      have hq6 : q = 1 ∨ q = 2 ∨ q = 3 ∨ q = 4 ∨ q = 5 ∨ q = 6 ∨ (q ≠ 1 ∧ q ≠ 2 ∧ q ≠ 3 ∧ q ≠ 4 ∧ q ≠ 5 ∧ q ≠ 6) := by omega
      obtain ⟨pv, nv, cv, rfl⟩ := HD.out.shape
      obtain ⟨g0, g1, g2, g3, g4, g5⟩ := cells6 HD.out.blk
      have gf := fun o => frozen_blk (o := o) HD.out.blk
      rcases hq6 with rfl | rfl | rfl | rfl | rfl | rfl | ⟨n1, n2, n3, n4, n5, n6⟩
      · have hqi : (odd : Int) % 12 = 1 := by omega
        have hqt : (odd : Int).tmod 12 = 1 := by rw [Int.tmod_eq_emod_of_nonneg (by omega)]; omega
        clear hq
        go_upto_region 25 with (fail)
        generalize hW : World.setCell wr _ _ = W5
        have HD5 := Lib.hid (show DI w2 (.int .i64 0) (.int .i64 k1) (.int .i64 k2) (.bool tw) (.string str) (.slice pv nv cv) ts W5 from hW ▸ HD.out.set0 _)
        obtain ⟨g0, g1, g2, g3, g4, g5⟩ := cells6 HD5.out.blk
        obtain ⟨z0, z1, z2, z3, z4, z5⟩ := cells6 ((HD5.out.t.block _ (heap_lt B1.out) (fun h => h)).trans B1.out)
        have zf := fun o => frozen_blk (o := o) ((HD5.out.t.block _ (heap_lt B1.out) (fun h => h)).trans B1.out)
        have B1W := Lib.hid ((HD5.out.t.block _ (heap_lt B1.out) (fun h => h)).trans B1.out)
        clear hW f6 hqi hqt gf
        go_wp2_with fail
        refine bodyPost_ret (v := .agg #[.int .i64 0, .int .i64 k1, .int .i64 k2, .bool tw, .string str, .slice pv nv cv]) ?_ rfl ?_
        · exact draft_res rfl (store6 B1W.out _ _ _ _ _ _)
        · rw [← HSTR.out] at HD5 ⊢
          exact draft_post T2.out HD5.out (by have := HTS.out; omega) (by rw [List.length_take]; have := HN.out; omega) (Nat.le_succ _) HB2.out _ _ _ _ _ _
      · have hqi : (odd : Int) % 12 = 2 := by omega
        have hqt : (odd : Int).tmod 12 = 2 := by rw [Int.tmod_eq_emod_of_nonneg (by omega)]; omega
        clear hq
        go_upto_region 25 with (fail)
        generalize hW : World.setCell wr _ _ = W5
        have HD5 := Lib.hid (show DI w2 (.int .i64 k0) (.int .i64 33) (.int .i64 k2) (.bool tw) (.string str) (.slice pv nv cv) ts W5 from hW ▸ HD.out.set1 _)
        obtain ⟨g0, g1, g2, g3, g4, g5⟩ := cells6 HD5.out.blk
        obtain ⟨z0, z1, z2, z3, z4, z5⟩ := cells6 ((HD5.out.t.block _ (heap_lt B1.out) (fun h => h)).trans B1.out)
        have zf := fun o => frozen_blk (o := o) ((HD5.out.t.block _ (heap_lt B1.out) (fun h => h)).trans B1.out)
        have B1W := Lib.hid ((HD5.out.t.block _ (heap_lt B1.out) (fun h => h)).trans B1.out)
        clear hW f6 hqi hqt gf
        go_wp2_with fail
        refine bodyPost_ret (v := .agg #[.int .i64 k0, .int .i64 33, .int .i64 k2, .bool tw, .string str, .slice pv nv cv]) ?_ rfl ?_
        · exact draft_res rfl (store6 B1W.out _ _ _ _ _ _)
        · rw [← HSTR.out] at HD5 ⊢
          exact draft_post T2.out HD5.out (by have := HTS.out; omega) (by rw [List.length_take]; have := HN.out; omega) (Nat.le_succ _) HB2.out _ _ _ _ _ _
      · have hqi : (odd : Int) % 12 = 3 := by omega
        have hqt : (odd : Int).tmod 12 = 3 := by rw [Int.tmod_eq_emod_of_nonneg (by omega)]; omega
        clear hq
        go_upto_region 25 with (fail)
        generalize hW : World.setCell wr _ _ = W5
        have HD5 := Lib.hid (show DI w2 (.int .i64 k0) (.int .i64 k1) (.int .i64 (-1)) (.bool tw) (.string str) (.slice pv nv cv) ts W5 from hW ▸ HD.out.set2 _)
        obtain ⟨g0, g1, g2, g3, g4, g5⟩ := cells6 HD5.out.blk
        obtain ⟨z0, z1, z2, z3, z4, z5⟩ := cells6 ((HD5.out.t.block _ (heap_lt B1.out) (fun h => h)).trans B1.out)
        have zf := fun o => frozen_blk (o := o) ((HD5.out.t.block _ (heap_lt B1.out) (fun h => h)).trans B1.out)
        have B1W := Lib.hid ((HD5.out.t.block _ (heap_lt B1.out) (fun h => h)).trans B1.out)
        clear hW f6 hqi hqt gf
        go_wp2_with fail
        refine bodyPost_ret (v := .agg #[.int .i64 k0, .int .i64 k1, .int .i64 (-1), .bool tw, .string str, .slice pv nv cv]) ?_ rfl ?_
        · exact draft_res rfl (store6 B1W.out _ _ _ _ _ _)
        · rw [← HSTR.out] at HD5 ⊢
          exact draft_post T2.out HD5.out (by have := HTS.out; omega) (by rw [List.length_take]; have := HN.out; omega) (Nat.le_succ _) HB2.out _ _ _ _ _ _
      · have hqi : (odd : Int) % 12 = 4 := by omega
        have hqt : (odd : Int).tmod 12 = 4 := by rw [Int.tmod_eq_emod_of_nonneg (by omega)]; omega
        clear hq
        obtain ⟨pa, nn, cap, W', hrun, e5, e6, d11⟩ := push26b' (k := 1) (a := 0) (c := 0) HD.out (by have := HTS.out; omega) 24
        have HD11 := Lib.hid d11
        have HR := Lib.hid hrun
        clear hrun d11
        go_upto_region 25 with (at_builtin; refine wpList_append_eq rfl _ _ 24 rfl _ _ rfl rfl HR.out ?_)
        clear g0 g1 g2 g3 g4 g5 gf HR
        generalize hW : World.setCell W' _ _ = W5
        have HD5 := Lib.hid (show DI w2 (.int .i64 k0) (.int .i64 k1) (.int .i64 k2) (.bool tw) (.string str) (.slice pa nn cap) (ts ++ [⟨1, 0, 0⟩]) W5 from hW ▸ HD11.out)
        obtain ⟨g0, g1, g2, g3, g4, g5⟩ := cells6 HD5.out.blk
        obtain ⟨z0, z1, z2, z3, z4, z5⟩ := cells6 ((HD5.out.t.block _ (heap_lt B1.out) (fun h => h)).trans B1.out)
        have zf := fun o => frozen_blk (o := o) ((HD5.out.t.block _ (heap_lt B1.out) (fun h => h)).trans B1.out)
        have B1W := Lib.hid ((HD5.out.t.block _ (heap_lt B1.out) (fun h => h)).trans B1.out)
        clear hW hqi hqt e5 e6
        go_wp2_with fail
        refine bodyPost_ret (v := .agg #[.int .i64 k0, .int .i64 k1, .int .i64 k2, .bool tw, .string str, .slice pa nn cap]) ?_ rfl ?_
        · exact draft_res rfl (store6 B1W.out _ _ _ _ _ _)
        · rw [← HSTR.out] at HD5 ⊢
          exact draft_post T2.out HD5.out (by rw [List.length_append]; have := HTS.out; simp only [List.length_singleton]; omega) (by rw [List.length_take]; have := HN.out; omega) (Nat.le_succ _) HB2.out _ _ _ _ _ _
      · have hqi : (odd : Int) % 12 = 5 := by omega
        have hqt : (odd : Int).tmod 12 = 5 := by rw [Int.tmod_eq_emod_of_nonneg (by omega)]; omega
        clear hq
        obtain ⟨pa, nn, cap, W', hrun, e5, e6, d11⟩ := push26b' (k := 3) (a := 1) (c := 0) HD.out (by have := HTS.out; omega) 24
        have HD11 := Lib.hid d11
        have HR := Lib.hid hrun
        clear hrun d11
        go_upto_region 25 with (at_builtin; refine wpList_append_eq rfl _ _ 24 rfl _ _ rfl rfl HR.out ?_)
        clear g0 g1 g2 g3 g4 g5 gf HR
        generalize hW : World.setCell W' _ _ = W5
        have HD5 := Lib.hid (show DI w2 (.int .i64 k0) (.int .i64 k1) (.int .i64 k2) (.bool tw) (.string str) (.slice pa nn cap) (ts ++ [⟨3, 1, 0⟩]) W5 from hW ▸ HD11.out)
        obtain ⟨g0, g1, g2, g3, g4, g5⟩ := cells6 HD5.out.blk
        obtain ⟨z0, z1, z2, z3, z4, z5⟩ := cells6 ((HD5.out.t.block _ (heap_lt B1.out) (fun h => h)).trans B1.out)
        have zf := fun o => frozen_blk (o := o) ((HD5.out.t.block _ (heap_lt B1.out) (fun h => h)).trans B1.out)
        have B1W := Lib.hid ((HD5.out.t.block _ (heap_lt B1.out) (fun h => h)).trans B1.out)
        clear hW hqi hqt e5 e6
        go_wp2_with fail
        refine bodyPost_ret (v := .agg #[.int .i64 k0, .int .i64 k1, .int .i64 k2, .bool tw, .string str, .slice pa nn cap]) ?_ rfl ?_
        · exact draft_res rfl (store6 B1W.out _ _ _ _ _ _)
        · rw [← HSTR.out] at HD5 ⊢
          exact draft_post T2.out HD5.out (by rw [List.length_append]; have := HTS.out; simp only [List.length_singleton]; omega) (by rw [List.length_take]; have := HN.out; omega) (Nat.le_succ _) HB2.out _ _ _ _ _ _
      · have hqi : (odd : Int) % 12 = 6 := by omega
        have hqt : (odd : Int).tmod 12 = 6 := by rw [Int.tmod_eq_emod_of_nonneg (by omega)]; omega
        clear hq
        obtain ⟨pa, nn, cap, W', hrun, e5, e6, d11⟩ := push26b' (k := 0) (a := 100) (c := 1) HD.out (by have := HTS.out; omega) 24
        have HD11 := Lib.hid d11
        have HR := Lib.hid hrun
        clear hrun d11
        go_upto_region 25 with (at_builtin; refine wpList_append_eq rfl _ _ 24 rfl _ _ rfl rfl HR.out ?_)
        clear g0 g1 g2 g3 g4 g5 gf HR
        generalize hW : World.setCell W' _ _ = W5
        have HD5 := Lib.hid (show DI w2 (.int .i64 k0) (.int .i64 k1) (.int .i64 k2) (.bool tw) (.string str) (.slice pa nn cap) (ts ++ [⟨0, 100, 1⟩]) W5 from hW ▸ HD11.out)
        obtain ⟨g0, g1, g2, g3, g4, g5⟩ := cells6 HD5.out.blk
        obtain ⟨z0, z1, z2, z3, z4, z5⟩ := cells6 ((HD5.out.t.block _ (heap_lt B1.out) (fun h => h)).trans B1.out)
        have zf := fun o => frozen_blk (o := o) ((HD5.out.t.block _ (heap_lt B1.out) (fun h => h)).trans B1.out)
        have B1W := Lib.hid ((HD5.out.t.block _ (heap_lt B1.out) (fun h => h)).trans B1.out)
        clear hW hqi hqt e5 e6
        go_wp2_with fail
        refine bodyPost_ret (v := .agg #[.int .i64 k0, .int .i64 k1, .int .i64 k2, .bool tw, .string str, .slice pa nn cap]) ?_ rfl ?_
        · exact draft_res rfl (store6 B1W.out _ _ _ _ _ _)
        · rw [← HSTR.out] at HD5 ⊢
          exact draft_post T2.out HD5.out (by rw [List.length_append]; have := HTS.out; simp only [List.length_singleton]; omega) (by rw [List.length_take]; have := HN.out; omega) (Nat.le_succ _) HB2.out _ _ _ _ _ _
      · have m1 : ((odd : Int) % 12 == 1) = false := by simp; omega
        have m2 : ((odd : Int) % 12 == 2) = false := by simp; omega
        have m3 : ((odd : Int) % 12 == 3) = false := by simp; omega
        have m4 : ((odd : Int) % 12 == 4) = false := by simp; omega
        have m5 : ((odd : Int) % 12 == 5) = false := by simp; omega
        have m6 : ((odd : Int) % 12 == 6) = false := by simp; omega
        clear n1 n2 n3 n4 n5 n6 hq
        go_upto_region 25 with (fail)
        clear gf
        have HD5 := Lib.hid HD.out
        obtain ⟨g0, g1, g2, g3, g4, g5⟩ := cells6 HD5.out.blk
        obtain ⟨z0, z1, z2, z3, z4, z5⟩ := cells6 ((HD5.out.t.block _ (heap_lt B1.out) (fun h => h)).trans B1.out)
        have zf := fun o => frozen_blk (o := o) ((HD5.out.t.block _ (heap_lt B1.out) (fun h => h)).trans B1.out)
        have B1W := Lib.hid ((HD5.out.t.block _ (heap_lt B1.out) (fun h => h)).trans B1.out)
        clear f6 m1 m2 m3 m4 m5 m6
        go_wp2_with fail
        refine bodyPost_ret (v := .agg #[.int .i64 k0, .int .i64 k1, .int .i64 k2, .bool tw, .string str, .slice pv nv cv]) ?_ rfl ?_
        · exact draft_res rfl (store6 B1W.out _ _ _ _ _ _)
        · rw [← HSTR.out] at HD5 ⊢
          exact draft_post T2.out HD5.out (by have := HTS.out; omega) (by rw [List.length_take]; have := HN.out; omega) (Nat.le_succ _) HB2.out _ _ _ _ _ _

theorem drafted_any {a0 a1 a2 odd N : Nat} {tw : Bool} {mv tv : Value} {l : Bs} {w : World} (h0 : a0 < 256) (h1 : a1 < 256) (h2 : a2 < 256) (ho : odd < 256) (hm : BSl w mv l) (hl : l.length ≤ 9223372036854775807) (ht : ASl w tv N) (hN : N ≤ 9223372036854775807) :
    Calls Tryz.prog 10 #[.agg (dcells a0 a1 a2 tw mv tv odd)] w (DraftPost w) := (drafted_own h0 h1 h2 ho hm hl ht hN).mono fun _ _ h => h.post
end Go.Proofs.YtjnllclpdllceaaGreatDoor
