/- Print's writes. -/
import Derived.Test.YtjnllclpdllceaaGreatDoorVb
import Derived.Test.YtjnllclpdllceaaGreatDoorSm
namespace Go.Proofs.YtjnllclpdllceaaGreatDoor
set_option linter.unusedSimpArgs false
set_option linter.unusedVariables false
open Go.RowKit Go.Shelf

/-- What Print keeps: the script's box, the builder's text. -/
structure PrS (w : World) (b : Nat) (cs : Array Value) (l : Bs) (W : World) : Prop where
  bld : Lib.IsBuilder 66 5 b b (Lib.byteCells l) W
  box : W.heap[w.heap.size]? = some (.cells cs 26)
  low : Below w.heap.size w W
  lt : w.heap.size < b
  blt : b < W.heap.size

theorem isb_turn {w w' : World} {B b : Nat} {bs : List Value} (h : Lib.IsBuilder 66 5 B b bs w) (t : Turn Nn w w') : Lib.IsBuilder 66 5 B b bs w' := by
  have key : ∀ p, Lib.BuilderAt 66 5 B b p bs w → Lib.BuilderAt 66 5 B b p bs w' := fun p ⟨h1, v, h2, h3, h4⟩ => ⟨h1, v, (t.block b (heap_lt h2) (fun h => h)).trans h2, ownsRow_turn h3 t, h4⟩
  exact h.imp (key _) (key _)

theorem PrS.turn {w W W' : World} {b : Nat} {cs : Array Value} {l : Bs} (h : PrS w b cs l W) (t : Turn Nn W W') : PrS w b cs l W' :=
  ⟨isb_turn h.bld t, (t.block _ (heap_lt h.box) (fun h => h)).trans h.box, t.under h.low (fun _ h => h.elim) h.low.size, h.lt, Nat.lt_of_lt_of_le h.blt t.size⟩

theorem writeB {w W : World} {b : Nat} {cs : Array Value} {l : Bs} (h : PrS w b cs l W) (hl : l.length ≤ 10000000) (c : UInt8) :
    Calls Tryz.prog 25 #[.pointer (some ⟨b, 0, none⟩), .int .u8 (c.toNat : Int)] W fun e W' => e = .returned .nilIface ∧ PrS w b cs (l ++ [c]) W' ∧ Kept b W W' := by
  refine (writeByte_kept (c.toNat : Int) h.bld (by rw [Lib.byteCells_length]; omega) (by have := h.blt; omega)).mono ?_
  rintro e W' ⟨rfl, h1, h2, h3⟩
  refine ⟨rfl, ⟨.inr ?_, (h2.block _ h.lt).trans h.box, h.low.trans (h2.mono (Nat.le_of_lt h.lt)), h.lt, Nat.lt_of_lt_of_le h.blt h2.size⟩, h3⟩
  have e : Lib.byteCells (l ++ [c]) = Lib.byteCells l ++ [.int .u8 (c.toNat : Int)] := by simp [Lib.byteCells]
  rw [e]; exact h1

theorem writeS {w W : World} {b : Nat} {cs : Array Value} {l : Bs} (h : PrS w b cs l W) (hl : l.length ≤ 10000000) (s : Bs) (hs : s.length ≤ 10000000) :
    Calls Tryz.prog 23 #[.pointer (some ⟨b, 0, none⟩), .string (BT s)] W fun e W' => e = .returned (.tuple #[.int .i64 s.length, .nilIface]) ∧ PrS w b cs (l ++ s) W' ∧ Kept b W W' := by
  have hsz : (BT s).size = s.length := rfl
  refine (writeString_kept (BT s) h.bld (by rw [Lib.byteCells_length, hsz]; omega) (by have := h.blt; omega)).mono ?_
  rintro e W' ⟨rfl, h1, h2, h3⟩
  refine ⟨rfl, ⟨.inr ?_, (h2.block _ h.lt).trans h.box, h.low.trans (h2.mono (Nat.le_of_lt h.lt)), h.lt, Nat.lt_of_lt_of_le h.blt h2.size⟩, h3⟩
  have e : Lib.byteCells (l ++ s) = Lib.byteCells l ++ Lib.strCells (BT s) := by simp [Lib.byteCells, Lib.strCells, BT]
  rw [e]; exact h1

theorem words1' {n : Int} (hn : Fit n) {w : World} (hl : Laid w) (p : Nat) (h0 : w.cell? ⟨p, 0, none⟩ = some (.int .i64 n)) (hi : (Lib.itoa n).length ≤ 1000) :
    Calls Tryz.prog 24 #[.string ⟨#[]⟩, .slice (some ⟨p, 0, none⟩) 1 1] w fun e w' => e = .returned (.string (BT (32 :: Lib.itoa n))) ∧ Turn Nn w w' := by
  refine (words1 ⟨#[]⟩ hn hl p h0 (by decide) hi).mono ?_
  rintro e w' ⟨rfl, t⟩
  refine ⟨?_, t⟩
  have : (⟨#[]⟩ : ByteArray) ++ ((⟨#[32]⟩ : ByteArray) ++ ⟨(Lib.itoa n).toArray⟩) = BT (32 :: Lib.itoa n) := by
    show BT [] ++ (BT [32] ++ BT (Lib.itoa n)) = _
    rw [BT_append, BT_append]; rfl
  rw [this]

theorem bytesT_append : ∀ (x y : Bs) (i : Nat), bytesT i (x ++ y) = bytesT i x ++ bytesT (i + x.length) y
  | [], y, i => by simp [bytesT]
  | c :: x, y, i => by
    rw [List.cons_append, bytesT, bytesT, bytesT_append x y (i + 1), show i + 1 + x.length = i + (c :: x).length by simp; omega]
    simp

theorem bytesT_step {m : Bs} {k : Nat} (hk : k < m.length) : bytesT 0 (m.take (k + 1)) = bytesT 0 (m.take k) ++ ((if k % 24 = 0 then 10 :: (wBytes ++ [32]) else []) ++ hx2 m[k]) := by
  rw [List.take_succ_eq_append_getElem hk, bytesT_append, List.length_take, Nat.min_eq_left (by omega), Nat.zero_add]
  simp [bytesT]

theorem bytesT_length : ∀ (x : Bs) (i : Nat), (bytesT i x).length ≤ 9 * x.length
  | [], i => by simp [bytesT]
  | c :: x, i => by
    have := bytesT_length x (i + 1)
    rw [bytesT]
    split <;> simp [hx2, wBytes] <;> omega

theorem halves_at {n : Nat} (h : n < 16) (w : World) : (Instr.index 9 (.string ⟨#[48, 49, 50, 51, 52, 53, 54, 55, 56, 57, 97, 98, 99, 100, 101, 102]⟩) (.int .u8 n)).run Tryz.prog w = .ok (.int .u8 ((hx n).toNat : Int)) w := by
  obtain rfl | rfl | rfl | rfl | rfl | rfl | rfl | rfl | rfl | rfl | rfl | rfl | rfl | rfl | rfl | rfl : n = 0 ∨ n = 1 ∨ n = 2 ∨ n = 3 ∨ n = 4 ∨ n = 5 ∨ n = 6 ∨ n = 7 ∨ n = 8 ∨ n = 9 ∨ n = 10 ∨ n = 11 ∨ n = 12 ∨ n = 13 ∨ n = 14 ∨ n = 15 := by omega
  all_goals kernel_rfl
end Go.Proofs.YtjnllclpdllceaaGreatDoor
