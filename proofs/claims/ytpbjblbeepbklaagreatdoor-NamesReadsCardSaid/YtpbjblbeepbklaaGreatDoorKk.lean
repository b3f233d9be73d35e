/- The program's walks: how a row reads words (no field). Printed by gen_wu.py. The program's walks: how a row reads words (one field). Printed by gen_wu.py. -/
import Derived.Test.YtpbjblbeepbklaaGreatDoorKi
namespace Go.Proofs.YtpbjblbeepbklaaGreatDoor
set_option linter.unusedSimpArgs false
set_option linter.unusedVariables false
section
open Go.RowKit Go.Shelf

theorem cut_eq (k : UInt8) (l : Bs) : Lib.cut l [k] = match cutC k l with
    | some (a, p) => (a, p, true)
    | none => (l, [], false) := by
  unfold Lib.cut
  rcases firstC k l with h | ⟨a, b, rfl, h⟩
  · rw [indexC, indexByte_no k l h]
    have : cutC k l = none := by
      cases hc : cutC k l with
      | none => rfl
      | some p =>
        obtain ⟨h1, _⟩ := cutC_some (a := p.1) (b := p.2) hc
        exact absurd rfl (h k (by rw [h1]; simp))
    rw [this]
    rfl
  · rw [indexC, indexByte_first k a b h, cutC_at h, if_pos (by omega)]
    simp only [Int.toNat_natCast, List.length_cons, List.length_nil]
    rw [List.take_left' rfl]
    have : (a ++ k :: b).drop (a.length + 1) = b := by
      rw [show a ++ k :: b = (a ++ [k]) ++ b by simp]
      exact List.drop_left' (by simp)
    rw [this]
def cutA (l : Bs) : Array Value := match cutC 64 l with
  | some (a, p) => #[.string (BT a), .string (BT p), .bool true]
  | none => #[.string (BT l), .string (BT []), .bool false]
theorem cut_any {l : Bs} (hl : l.length ≤ 4000000) {w : World} (hw : Laid w) : Calls Tryz.prog 72 #[.string (BT l), .string ⟨#[64]⟩] w fun e w' => e = .returned (.tuple (cutA l)) ∧ Turn Nn w w' := by
  obtain ⟨m, hm⟩ := hw.mx
  refine (Tryz.strings_Cut (BT l) ⟨#[64]⟩ m w (by rw [BT_size]; omega) hm).mono ?_
  rintro e w' ⟨rfl, n, rfl⟩
  refine ⟨?_, (Turn.refl Nn w).drewN n⟩
  have hk : (⟨#[64]⟩ : ByteArray).data.toList = [64] := rfl
  rw [BT_data, hk, cut_eq]
  unfold cutA
  cases cutC 64 l with
  | none => rfl
  | some p => rfl
/-- What a row reads, or given up. -/
def ReadX (w : World) (x : Option EventD) (e : Ending) (w' : World) : Prop := (match x with
  | some E => e = .returned (.agg (evC E))
  | none => e = badE) ∧ Turn Nn w w'
/-- Words at a block. -/
def WAt (w : World) (b : Nat) (L : List Bs) : Prop := ∀ i, i < L.length → w.cell? ⟨b, i, none⟩ = some (.string (BT (L[i]?.getD [])))
theorem WAt.turn {w w' : World} {b : Nat} {L : List Bs} (h : WAt w b L) (t : Turn Nn w w') : WAt w' b L := fun i hi => cell_turn t (h i hi)
theorem Turn.off {w a b : World} {B : Nat} (t : Turn Nn w a) (k : Turn (At1 B) a b) (hB : w.heap.size ≤ B) : Turn Nn w b :=
  ⟨k.os.trans t.os, k.tape.trans t.tape, k.output.trans t.output, Nat.le_trans t.size k.size, fun i hi _ => (k.block i (Nat.lt_of_lt_of_le hi t.size) (fun e => by have : i = B := e; omega)).trans (t.block i hi (fun h => h))⟩
def set9 (w : World) (B : Nat) (E : EventD) : World := (((((((((w.setCell ⟨B, 0, none⟩ (.int .i64 E.kind)).setCell ⟨B, 1, none⟩ (.int .i64 E.slot)).setCell ⟨B, 2, none⟩ (.string (BT E.actor))).setCell ⟨B, 3, none⟩ (.int .i64 E.pc)).setCell ⟨B, 4, none⟩ (.string (BT E.chan))).setCell ⟨B, 5, none⟩ (.int .i64 E.side)).setCell ⟨B, 6, none⟩ (.int .i64 E.tag)).setCell ⟨B, 7, none⟩ (.int .i64 E.word)).setCell ⟨B, 8, none⟩ (.string (BT E.name)))
theorem set9_at {w : World} {B : Nat} {E0 : EventD} (h : EvAt w B E0) (E : EventD) : EvAt (set9 w B E) B E := by
  have h0 : (w.setCell ⟨B, 0, none⟩ (.int .i64 E.kind)).heap[B]? = some (.cells #[.int .i64 E.kind, .int .i64 E0.slot, .string (BT E0.actor), .int .i64 E0.pc, .string (BT E0.chan), .int .i64 E0.side, .int .i64 E0.tag, .int .i64 E0.word, .string (BT E0.name)] 34) := heap_setCell_at h 0 (.int .i64 E.kind)
  have h1 : ((w.setCell ⟨B, 0, none⟩ (.int .i64 E.kind)).setCell ⟨B, 1, none⟩ (.int .i64 E.slot)).heap[B]? = some (.cells #[.int .i64 E.kind, .int .i64 E.slot, .string (BT E0.actor), .int .i64 E0.pc, .string (BT E0.chan), .int .i64 E0.side, .int .i64 E0.tag, .int .i64 E0.word, .string (BT E0.name)] 34) := heap_setCell_at h0 1 (.int .i64 E.slot)
  have h2 : (((w.setCell ⟨B, 0, none⟩ (.int .i64 E.kind)).setCell ⟨B, 1, none⟩ (.int .i64 E.slot)).setCell ⟨B, 2, none⟩ (.string (BT E.actor))).heap[B]? = some (.cells #[.int .i64 E.kind, .int .i64 E.slot, .string (BT E.actor), .int .i64 E0.pc, .string (BT E0.chan), .int .i64 E0.side, .int .i64 E0.tag, .int .i64 E0.word, .string (BT E0.name)] 34) := heap_setCell_at h1 2 (.string (BT E.actor))
  have h3 : ((((w.setCell ⟨B, 0, none⟩ (.int .i64 E.kind)).setCell ⟨B, 1, none⟩ (.int .i64 E.slot)).setCell ⟨B, 2, none⟩ (.string (BT E.actor))).setCell ⟨B, 3, none⟩ (.int .i64 E.pc)).heap[B]? = some (.cells #[.int .i64 E.kind, .int .i64 E.slot, .string (BT E.actor), .int .i64 E.pc, .string (BT E0.chan), .int .i64 E0.side, .int .i64 E0.tag, .int .i64 E0.word, .string (BT E0.name)] 34) := heap_setCell_at h2 3 (.int .i64 E.pc)
  have h4 : (((((w.setCell ⟨B, 0, none⟩ (.int .i64 E.kind)).setCell ⟨B, 1, none⟩ (.int .i64 E.slot)).setCell ⟨B, 2, none⟩ (.string (BT E.actor))).setCell ⟨B, 3, none⟩ (.int .i64 E.pc)).setCell ⟨B, 4, none⟩ (.string (BT E.chan))).heap[B]? = some (.cells #[.int .i64 E.kind, .int .i64 E.slot, .string (BT E.actor), .int .i64 E.pc, .string (BT E.chan), .int .i64 E0.side, .int .i64 E0.tag, .int .i64 E0.word, .string (BT E0.name)] 34) := heap_setCell_at h3 4 (.string (BT E.chan))
  have h5 : ((((((w.setCell ⟨B, 0, none⟩ (.int .i64 E.kind)).setCell ⟨B, 1, none⟩ (.int .i64 E.slot)).setCell ⟨B, 2, none⟩ (.string (BT E.actor))).setCell ⟨B, 3, none⟩ (.int .i64 E.pc)).setCell ⟨B, 4, none⟩ (.string (BT E.chan))).setCell ⟨B, 5, none⟩ (.int .i64 E.side)).heap[B]? = some (.cells #[.int .i64 E.kind, .int .i64 E.slot, .string (BT E.actor), .int .i64 E.pc, .string (BT E.chan), .int .i64 E.side, .int .i64 E0.tag, .int .i64 E0.word, .string (BT E0.name)] 34) := heap_setCell_at h4 5 (.int .i64 E.side)
  have h6 : (((((((w.setCell ⟨B, 0, none⟩ (.int .i64 E.kind)).setCell ⟨B, 1, none⟩ (.int .i64 E.slot)).setCell ⟨B, 2, none⟩ (.string (BT E.actor))).setCell ⟨B, 3, none⟩ (.int .i64 E.pc)).setCell ⟨B, 4, none⟩ (.string (BT E.chan))).setCell ⟨B, 5, none⟩ (.int .i64 E.side)).setCell ⟨B, 6, none⟩ (.int .i64 E.tag)).heap[B]? = some (.cells #[.int .i64 E.kind, .int .i64 E.slot, .string (BT E.actor), .int .i64 E.pc, .string (BT E.chan), .int .i64 E.side, .int .i64 E.tag, .int .i64 E0.word, .string (BT E0.name)] 34) := heap_setCell_at h5 6 (.int .i64 E.tag)
  have h7 : ((((((((w.setCell ⟨B, 0, none⟩ (.int .i64 E.kind)).setCell ⟨B, 1, none⟩ (.int .i64 E.slot)).setCell ⟨B, 2, none⟩ (.string (BT E.actor))).setCell ⟨B, 3, none⟩ (.int .i64 E.pc)).setCell ⟨B, 4, none⟩ (.string (BT E.chan))).setCell ⟨B, 5, none⟩ (.int .i64 E.side)).setCell ⟨B, 6, none⟩ (.int .i64 E.tag)).setCell ⟨B, 7, none⟩ (.int .i64 E.word)).heap[B]? = some (.cells #[.int .i64 E.kind, .int .i64 E.slot, .string (BT E.actor), .int .i64 E.pc, .string (BT E.chan), .int .i64 E.side, .int .i64 E.tag, .int .i64 E.word, .string (BT E0.name)] 34) := heap_setCell_at h6 7 (.int .i64 E.word)
  have h8 : (((((((((w.setCell ⟨B, 0, none⟩ (.int .i64 E.kind)).setCell ⟨B, 1, none⟩ (.int .i64 E.slot)).setCell ⟨B, 2, none⟩ (.string (BT E.actor))).setCell ⟨B, 3, none⟩ (.int .i64 E.pc)).setCell ⟨B, 4, none⟩ (.string (BT E.chan))).setCell ⟨B, 5, none⟩ (.int .i64 E.side)).setCell ⟨B, 6, none⟩ (.int .i64 E.tag)).setCell ⟨B, 7, none⟩ (.int .i64 E.word)).setCell ⟨B, 8, none⟩ (.string (BT E.name))).heap[B]? = some (.cells #[.int .i64 E.kind, .int .i64 E.slot, .string (BT E.actor), .int .i64 E.pc, .string (BT E.chan), .int .i64 E.side, .int .i64 E.tag, .int .i64 E.word, .string (BT E.name)] 34) := heap_setCell_at h7 8 (.string (BT E.name))
  exact h8
theorem set9_turn {w : World} {B : Nat} (E : EventD) : Turn (At1 B) w (set9 w B E) :=
  ((((((((((Turn.refl Nn w).at1 B).set1 _ _).set1 _ _).set1 _ _).set1 _ _).set1 _ _).set1 _ _).set1 _ _).set1 _ _).set1 _ _
theorem set9_blk {w : World} {B k : Nat} {E : EventD} {o : Obj} (h : w.heap[k]? = some o) (hne : k ≠ B) : (set9 w B E).heap[k]? = some o :=
  ((set9_turn E).block k (heap_lt h) (fun e => hne e)).trans h
theorem evFree {w : World} {B : Nat} {E : EventD} (h : EvAt w B E) : w.frozen? ⟨B, 0, none⟩ = false ∧ w.frozen? ⟨B, 1, none⟩ = false ∧ w.frozen? ⟨B, 2, none⟩ = false ∧ w.frozen? ⟨B, 3, none⟩ = false ∧ w.frozen? ⟨B, 4, none⟩ = false ∧ w.frozen? ⟨B, 5, none⟩ = false ∧ w.frozen? ⟨B, 6, none⟩ = false ∧ w.frozen? ⟨B, 7, none⟩ = false ∧ w.frozen? ⟨B, 8, none⟩ = false :=
  ⟨frozen_blk h, frozen_blk h, frozen_blk h, frozen_blk h, frozen_blk h, frozen_blk h, frozen_blk h, frozen_blk h, frozen_blk h⟩
theorem cell_at1 {w w' : World} {B : Nat} (t : Turn (At1 B) w w') {a : Addr} {v : Value} (h : w.cell? a = some v) (hne : a.block ≠ B) : w'.cell? a = some v := by
  have hl := World.block_lt_of_cell? w a h
  unfold World.cell? at h ⊢
  rw [t.block a.block hl hne]; exact h
theorem readH_none1 {r : RowD} {x y : Bs} (h : cutC 64 y = none) : readH r x y = none := by unfold readH; rw [h]
theorem readH_none2 {r : RowD} {x y a p : Bs} (h : cutC 64 y = some (a, p)) (h2 : actorL a = false) : readH r x y = none := by
  unfold readH; rw [h]; simp only; rw [if_neg (by rw [h2]; decide)]
theorem readH_none3 {r : RowD} {x y a p : Bs} (h : cutC 64 y = some (a, p)) (h2 : actorL a = true) (h3 : wholeL x = none) : readH r x y = none := by
  unfold readH; rw [h]; simp only; rw [if_pos h2, h3]
theorem readH_none4 {r : RowD} {x y a p : Bs} (h : cutC 64 y = some (a, p)) (h2 : actorL a = true) (h4 : wholeL p = none) : readH r x y = none := by
  unfold readH; rw [h]; simp only; rw [if_pos h2, h4]; cases wholeL x <;> rfl
theorem readH_none5 {r : RowD} {x y a p : Bs} {s q : Int} (h : cutC 64 y = some (a, p)) (h2 : actorL a = true) (h3 : wholeL x = some s) (h4 : wholeL p = some q) (h5 : ¬ (0 ≤ s ∧ 0 ≤ q)) : readH r x y = none := by
  unfold readH; rw [h]; simp only; rw [if_pos h2, h3, h4]; simp only; rw [if_neg h5]
theorem readH_yes {r : RowD} {x y a p : Bs} {s q : Int} (h : cutC 64 y = some (a, p)) (h2 : actorL a = true) (h3 : wholeL x = some s) (h4 : wholeL p = some q) (h5 : 0 ≤ s ∧ 0 ≤ q) : readH r x y = some ⟨r.kind, s, a, q, [], 0, r.tag, 0, []⟩ := by
  unfold readH; rw [h]; simp only; rw [if_pos h2, h3, h4]; simp only; rw [if_pos h5]
set_option maxRecDepth 100000 in
set_option maxHeartbeats 40000000 in
theorem row_read_nil {r : RowD} (hf : r.flds = []) {x y z : Bs} {v : Value} {w : World} {lb cap : Nat} (hL : WAt w lb [x, y, z]) (hx : x.length ≤ 4000000) (hy : y.length ≤ 4000000) (hcap : 3 ≤ cap) (hv : FSl w v r.flds) (hw : Laid w) :
    Calls Tryz.prog 46 #[.agg (rowA r v), .slice (some ⟨lb, 0, none⟩) 3 cap] w (ReadX w (readR r [x, y, z])) := by
  obtain ⟨X, hX⟩ : ∃ X, readR r [x, y, z] = X := ⟨_, rfl⟩
  rw [hX]
  have HX := Lib.hid hX
  have HW := Lib.hid hw
  have HF := Lib.hid hf
  have HL := Lib.hid hL
  have l0 : w.cell? ⟨lb, 0, none⟩ = some (.string (BT x)) := hL 0 (by simp)
  have l1 : w.cell? ⟨lb, 1, none⟩ = some (.string (BT y)) := hL 1 (by simp)
  have HLB := Lib.hid (World.block_lt_of_cell? _ _ l0)
  have HS4 : Hid (3 < w.heap.size) := Lib.hid (by obtain ⟨a, b, h⟩ := hw.rng; exact World.block_lt_of_cell? _ _ h)
  have HCU := fun w (h : Laid w) => Lib.hid (cut_any hy h)
  have HWX := fun w (h : Laid w) => Lib.hid (whole_any hx h)
  rw [hf] at hv
  clear hX hw hf hL
  have HVE : Hid (v = .slice none 0 0) := Lib.hid hv
  clear hv
  obtain ⟨w0, hw0⟩ : ∃ w0, w.alloc (.cells (rowA r v) 70) = w0 := ⟨_, rfl⟩
  obtain ⟨bR, tR⟩ := alloc1 hw0
  obtain ⟨w1, hw1⟩ : ∃ w1, w0.alloc (.cells (evC zeroE) 34) = w1 := ⟨_, rfl⟩
  obtain ⟨bE, tE⟩ := alloc1 hw1
  have hs0 : w0.heap.size = w.heap.size + 1 := by rw [← hw0, World.size_alloc]
  rw [hs0] at bE
  obtain ⟨RB, hRB⟩ : ∃ RB, w.heap.size = RB := ⟨_, rfl⟩
  have HRB := Lib.hid hRB
  have R1 : Hid (RowBox w1 RB r v) := Lib.hid (by rw [← hRB]; exact (tE.block _ (heap_lt bR) (fun h => h)).trans bR)
  have E1 : Hid (EvAt w1 (RB + 1) zeroE) := Lib.hid (by rw [← hRB]; exact bE)
  have T1 := Lib.hid (tR.trans tE)
  have m0 := cell_turn T1.out l0
  have m1 := cell_turn T1.out l1
  have M0 := Lib.hid m0
  have hw0' : w.alloc (.cells #[.int .i64 r.kind, .int .i64 r.tag, .string (BT r.word), .string (BT r.msg), v] 70) = w0 := hw0
  have hw1' : w0.alloc (.cells #[.int .i64 0, .int .i64 0, .string ⟨#[]⟩, .int .i64 0, .string ⟨#[]⟩, .int .i64 0, .int .i64 0, .int .i64 0, .string ⟨#[]⟩] 34) = w1 := hw1
  clear bR tR bE tE hw0 hw1 l0 l1 m0
  unfold rowA
  go_enter Tryz.func46, Tryz.ntmps46
  go_wp2_with fail
  refine (HCU _ (HW.out.turn T1.out)).out.mono ?_
  rintro e w2 ⟨rfl, t2⟩
  have T2 := Lib.hid (T1.out.trans t2)
  have R2 := Lib.hid (R1.out.turn t2)
  have E2 := Lib.hid (E1.out.turn t2)
  have M2 := Lib.hid (cell_turn t2 M0.out)
  clear t2 m1
  unfold cutA
  cases hcu : cutC 64 y with
  | none =>
    obtain rfl : X = none := by rw [← HX.out]; unfold readR; rw [show readH r (([x, y, z] : List Bs)[0]?.getD []) (([x, y, z] : List Bs)[1]?.getD []) = none from readH_none1 hcu]
    clear hcu
    go_wp2_with fail
    refine (need_no _).mono ?_
    rintro e wn ⟨rfl, rfl⟩
    exact ⟨rfl, rfl, T2.out⟩
  | some p =>
    obtain ⟨a, p⟩ := p
    have hya := (cutC_some hcu).1
    have hal : a.length ≤ 4000000 := by rw [hya] at hy; simp at hy; omega
    have hpl : p.length ≤ 4000000 := by rw [hya] at hy; simp at hy; omega
    have HCA := Lib.hid hcu
    have HAC := fun w (h : Laid w) => Lib.hid (actor_any hal h)
    have HWP := fun w (h : Laid w) => Lib.hid (whole_any hpl h)
    clear hcu hya hal hpl
    simp only
    cases hac : actorL a with
    | false =>
      obtain rfl : X = none := by rw [← HX.out]; unfold readR; rw [show readH r (([x, y, z] : List Bs)[0]?.getD []) (([x, y, z] : List Bs)[1]?.getD []) = none from readH_none2 HCA.out hac]
      simp only [hac] at HAC
      clear hac
      go_wp2_with fail
      refine (HAC _ (HW.out.turn T2.out)).out.mono ?_
      rintro e w3 ⟨rfl, t3⟩
      have T3 := Lib.hid (T2.out.trans t3)
      clear t3
      go_wp2_with fail
      refine (need_no _).mono ?_
      rintro e wn ⟨rfl, rfl⟩
      exact ⟨rfl, rfl, T3.out⟩
    | true =>
      have HA := Lib.hid hac
      simp only [hac] at HAC
      clear hac
      go_wp2_with fail
      refine (HAC _ (HW.out.turn T2.out)).out.mono ?_
      rintro e w3 ⟨rfl, t3⟩
      have T3 := Lib.hid (T2.out.trans t3)
      have R3 := Lib.hid (R2.out.turn t3)
      have E3 := Lib.hid (E2.out.turn t3)
      have M3 := Lib.hid (cell_turn t3 M2.out)
      clear t3
      go_wp2_with fail
      refine (need_yes _).mono ?_
      rintro e w3 ⟨rfl, rfl⟩
      go_upto_region 3 with (fail)
      refine held_begin (fun u => RowBox u RB r v ∧ u.cell? ⟨lb, 0, none⟩ = some (.string (BT x))) (by kernel_rfl) ?_
      generalize hwd : World.drew w3 = wd
      have VD : Hid (Turn Nn w wd) := Lib.hid (by rw [← hwd]; exact T3.out.drew)
      have SD : Hid (RowBox wd RB r v ∧ wd.cell? ⟨lb, 0, none⟩ = some (.string (BT x))) := Lib.hid (by rw [← hwd]; exact ⟨R3.out, M3.out⟩)
      have ED : Hid (EvAt wd (RB + 1) zeroE) := Lib.hid (by rw [← hwd]; exact E3.out)
      clear hwd
      refine held_take 0 ?_ rfl (by kernel_rfl) (by kernel_rfl) (by kernel_rfl) (fun _ _ _ h => h) (Or.inl ⟨by kernel_rfl, ?_⟩) SD.out ?_
      rotate_left 1
      · intro u hu; obtain ⟨hu1, hu2⟩ := hu; obtain ⟨x0, x1, x2, x3, x4⟩ := rowCells hu1; go_simp; first | done | with_reducible rfl
      try simp only [Act.put, nA, nB, nC, nD, nE, nF]
      refine held_take 1 ?_ rfl (by kernel_rfl) (by kernel_rfl) (by kernel_rfl) (fun _ _ _ h => h) (Or.inl ⟨by kernel_rfl, ?_⟩) SD.out ?_
      rotate_left 1
      · intro u hu; obtain ⟨hu1, hu2⟩ := hu; obtain ⟨x0, x1, x2, x3, x4⟩ := rowCells hu1; go_simp; first | done | with_reducible rfl
      try simp only [Act.put, nA, nB, nC, nD, nE, nF]
      refine held_take 2 ?_ rfl (by kernel_rfl) (by kernel_rfl) (by kernel_rfl) (fun _ _ _ h => h) (Or.inl ⟨by kernel_rfl, ?_⟩) SD.out ?_
      rotate_left 1
      · intro u hu; obtain ⟨hu1, hu2⟩ := hu; obtain ⟨x0, x1, x2, x3, x4⟩ := rowCells hu1; go_simp; first | done | with_reducible rfl
      try simp only [Act.put, nA, nB, nC, nD, nE, nF]
      refine held_take 3 ?_ rfl (by kernel_rfl) (by kernel_rfl) (by kernel_rfl) (fun _ _ _ h => h) (Or.inl ⟨by kernel_rfl, ?_⟩) SD.out ?_
      rotate_left 1
      · intro u hu; obtain ⟨hu1, hu2⟩ := hu; obtain ⟨x0, x1, x2, x3, x4⟩ := rowCells hu1; go_simp; first | done | with_reducible rfl
      try simp only [Act.put, nA, nB, nC, nD, nE, nF]
      refine held_take 4 ?_ rfl (by kernel_rfl) (by kernel_rfl) (by kernel_rfl) (fun _ _ _ h => h) (Or.inl ⟨by kernel_rfl, ?_⟩) SD.out ?_
      rotate_left 1
      · intro u hu; obtain ⟨hu1, hu2⟩ := hu; obtain ⟨x0, x1, x2, x3, x4⟩ := rowCells hu1; go_simp; first | done | with_reducible rfl
      try simp only [Act.put, nA, nB, nC, nD, nE, nF]
      refine held_take 6 ?_ rfl (by kernel_rfl) (by kernel_rfl) (by kernel_rfl) (fun _ _ _ h => h) (Or.inl ⟨by kernel_rfl, ?_⟩) SD.out ?_
      rotate_left 1
      · intro u hu; obtain ⟨hu1, hu2⟩ := hu; obtain ⟨x0, x1, x2, x3, x4⟩ := rowCells hu1; go_simp; first | done | with_reducible rfl
      try simp only [Act.put, nA, nB, nC, nD, nE, nF]
      refine held_take 7 ?_ rfl (by kernel_rfl) (by kernel_rfl) (by kernel_rfl) (fun _ _ _ h => h) (Or.inl ⟨by kernel_rfl, ?_⟩) SD.out ?_
      rotate_left 1
      · intro u hu; obtain ⟨hu1, hu2⟩ := hu; obtain ⟨x0, x1, x2, x3, x4⟩ := rowCells hu1; go_simp; first | done | with_reducible rfl
      try simp only [Act.put, nA, nB, nC, nD, nE, nF]
      refine held_take 9 ?_ rfl (by kernel_rfl) (by kernel_rfl) (by kernel_rfl) (fun _ _ _ h => h) (Or.inl ⟨by kernel_rfl, ?_⟩) SD.out ?_
      rotate_left 1
      · intro u hu; obtain ⟨hu1, hu2⟩ := hu; obtain ⟨x0, x1, x2, x3, x4⟩ := rowCells hu1; go_simp; first | done | with_reducible rfl
      try simp only [Act.put, nA, nB, nC, nD, nE, nF]
      refine held_take 10 ?_ rfl (by kernel_rfl) (by kernel_rfl) (by kernel_rfl) (fun _ _ _ h => h) (Or.inl ⟨by kernel_rfl, ?_⟩) SD.out ?_
      rotate_left 1
      · intro u hu; obtain ⟨hu1, hu2⟩ := hu; obtain ⟨x0, x1, x2, x3, x4⟩ := rowCells hu1; go_simp; first | done | with_reducible rfl
      try simp only [Act.put, nA, nB, nC, nD, nE, nF]
      cases hwx : wholeL x with
      | none =>
        obtain rfl : X = none := by rw [← HX.out]; unfold readR; rw [show readH r (([x, y, z] : List Bs)[0]?.getD []) (([x, y, z] : List Bs)[1]?.getD []) = none from readH_none3 HCA.out HA.out hwx]
        simp only [hwx] at HWX
        clear hwx
        refine held_one 5 (by kernel_rfl) rfl (by kernel_rfl) (fun K hK => ?_)
        go_simp
        refine (HWX _ (HW.out.turn VD.out)).out.mono ?_
        rintro e w4 ⟨he, t4⟩
        obtain rfl : e = badE := he
        exact ⟨rfl, rfl, VD.out.trans t4⟩
      | some sl =>
        have HSL := Lib.hid hwx
        simp only [hwx] at HWX
        clear hwx
        refine held_one 5 (by kernel_rfl) rfl (by kernel_rfl) (fun K hK => ?_)
        go_simp
        refine (HWX _ (HW.out.turn VD.out)).out.mono ?_
        rintro e w4 ⟨he, t4⟩
        obtain rfl : e = .returned (.int .i64 sl) := he
        have T4 := Lib.hid (VD.out.trans t4)
        have S4 : Hid (RowBox w4 RB r v ∧ w4.cell? ⟨lb, 0, none⟩ = some (.string (BT x))) := Lib.hid ⟨SD.out.1.turn t4, cell_turn t4 SD.out.2⟩
        have E4 := Lib.hid (ED.out.turn t4)
        clear t4
        refine hK _ _ S4.out ?_
        clear hK K
        try simp only [Act.put, nA, nB, nC, nD, nE, nF]
        cases hwp : wholeL p with
        | none =>
          obtain rfl : X = none := by rw [← HX.out]; unfold readR; rw [show readH r (([x, y, z] : List Bs)[0]?.getD []) (([x, y, z] : List Bs)[1]?.getD []) = none from readH_none4 HCA.out HA.out hwp]
          simp only [hwp] at HWP
          clear hwp
          refine held_one 8 (by kernel_rfl) rfl (by kernel_rfl) (fun K hK => ?_)
          go_simp
          refine (HWP _ (HW.out.turn T4.out)).out.mono ?_
          rintro e w5 ⟨he, t5⟩
          obtain rfl : e = badE := he
          exact ⟨rfl, rfl, T4.out.trans t5⟩
        | some pc =>
          have HPC := Lib.hid hwp
          simp only [hwp] at HWP
          clear hwp
          refine held_one 8 (by kernel_rfl) rfl (by kernel_rfl) (fun K hK => ?_)
          go_simp
          refine (HWP _ (HW.out.turn T4.out)).out.mono ?_
          rintro e w5 ⟨he, t5⟩
          obtain rfl : e = .returned (.int .i64 pc) := he
          have T5 := Lib.hid (T4.out.trans t5)
          have S5 : Hid (RowBox w5 RB r v ∧ w5.cell? ⟨lb, 0, none⟩ = some (.string (BT x))) := Lib.hid ⟨S4.out.1.turn t5, cell_turn t5 S4.out.2⟩
          have E5 := Lib.hid (E4.out.turn t5)
          clear t5
          refine hK _ _ S5.out ?_
          clear hK K
          try simp only [Act.put, nA, nB, nC, nD, nE, nF]
          refine held_take 11 ?_ rfl (by kernel_rfl) (by kernel_rfl) (by kernel_rfl) (fun _ _ _ h => h) (Or.inl ⟨by kernel_rfl, ?_⟩) S5.out ?_
          rotate_left 1
          · intro u hu; obtain ⟨hu1, hu2⟩ := hu; obtain ⟨x0, x1, x2, x3, x4⟩ := rowCells hu1; go_simp; first | done | with_reducible rfl
          try simp only [Act.put, nA, nB, nC, nD, nE, nF]
          obtain ⟨y0, y1, y2, y3, y4, y5, y6, y7, y8⟩ := evCells E5.out
          obtain ⟨z0, z1, z2, z3, z4, z5, z6, z7, z8⟩ := evFree E5.out
          refine held_one 12 (by kernel_rfl) rfl (by kernel_rfl) (fun K hK => ?_)
          go_simp
          generalize hws : World.setCell _ _ _ = w6
          have E6 : Hid (EvAt w6 (RB + 1) ⟨r.kind, sl, a, pc, [], 0, r.tag, 0, []⟩) := Lib.hid (by rw [← hws]; exact set9_at E5.out ⟨r.kind, sl, a, pc, [], 0, r.tag, 0, []⟩)
          have K6 : Turn (At1 (RB + 1)) w5 w6 := by rw [← hws]; exact set9_turn (B := RB + 1) ⟨r.kind, sl, a, pc, [], 0, r.tag, 0, []⟩
          have T6 := Lib.hid (T5.out.off K6 (by have := HRB.out; omega))
          have S6 : Hid (RowBox w6 RB r v ∧ w6.cell? ⟨lb, 0, none⟩ = some (.string (BT x))) := Lib.hid ⟨(K6.block RB (heap_lt S5.out.1) (fun e => by have h : RB = RB + 1 := e; omega)).trans S5.out.1, cell_at1 K6 S5.out.2 (by show lb ≠ RB + 1; have h1 := HLB.out; have h2 := HRB.out; omega)⟩
          clear hws K6 y0 y1 y2 y3 y4 y5 y6 y7 y8 z0 z1 z2 z3 z4 z5 z6 z7 z8
          refine hK _ _ S6.out ?_
          clear hK K
          try simp only [Act.put, nA, nB, nC, nD, nE, nF]
          refine wpAnyH_done (by kernel_rfl) ?_ _
          have q1 : w6.cell? ⟨RB + 1, 1, none⟩ = some (.int .i64 sl) := (evCells E6.out).2.1
          have q3 : w6.cell? ⟨RB + 1, 3, none⟩ = some (.int .i64 pc) := (evCells E6.out).2.2.2.1
          have x4 := (rowCells S6.out.1).2.2.2.2
          rw [HVE.out] at x4
          by_cases h0 : 0 ≤ sl
          · by_cases h1 : 0 ≤ pc
            · have HRH := Lib.hid (readH_yes (r := r) HCA.out HA.out HSL.out HPC.out ⟨h0, h1⟩)
              go_wp2_with fail
              refine (need_yes _).mono ?_
              rintro e w6 ⟨rfl, rfl⟩
              clear q1 q3 h0 h1
              go_wp2_with fail
              obtain ⟨y0, y1, y2, y3, y4, y5, y6, y7, y8⟩ := evCells E6.out
              obtain ⟨z0, z1, z2, z3, z4, z5, z6, z7, z8⟩ := evFree E6.out
              refine wp_loop_rounds 1 ?_
              rw [rounds_succ]
              go_wp2_with fail
              obtain rfl : X = some ⟨r.kind, sl, a, pc, [], 0, r.tag, 0, []⟩ := by rw [← HX.out]; unfold readR; rw [show readH r (([x, y, z] : List Bs)[0]?.getD []) (([x, y, z] : List Bs)[1]?.getD []) = _ from HRH.out, HF.out]
              refine bodyPost_ret (v := .agg (evC ⟨r.kind, sl, a, pc, [], 0, r.tag, 0, []⟩)) (results_cell_row rfl _ _ (RB + 1) 34 _ (0, 0) _ rfl (set9_at E6.out ⟨r.kind, sl, a, pc, [], 0, r.tag, 0, []⟩) Tryz.underlying34 rfl (by kernel_rfl)) rfl ?_
              exact ⟨rfl, T6.out.off (set9_turn ⟨r.kind, sl, a, pc, [], 0, r.tag, 0, []⟩) (by have := HRB.out; omega)⟩
            · obtain rfl : X = none := by rw [← HX.out]; unfold readR; rw [show readH r (([x, y, z] : List Bs)[0]?.getD []) (([x, y, z] : List Bs)[1]?.getD []) = none from readH_none5 HCA.out HA.out HSL.out HPC.out (fun h => h1 h.2)]
              go_wp2_with fail
              refine (need_no _).mono ?_
              rintro e w6 ⟨rfl, rfl⟩
              exact ⟨rfl, rfl, T6.out⟩
          · obtain rfl : X = none := by rw [← HX.out]; unfold readR; rw [show readH r (([x, y, z] : List Bs)[0]?.getD []) (([x, y, z] : List Bs)[1]?.getD []) = none from readH_none5 HCA.out HA.out HSL.out HPC.out (fun h => h0 h.1)]
            go_wp2_with fail
            refine (need_no _).mono ?_
            rintro e w6 ⟨rfl, rfl⟩
            exact ⟨rfl, rfl, T6.out⟩
end
section
open Go.RowKit Go.Shelf

set_option maxRecDepth 100000 in
set_option maxHeartbeats 40000000 in
theorem row_read_one_word {r : RowD} (hf : r.flds = [.word]) {x y z t : Bs} {v : Value} {w : World} {lb cap : Nat} (hL : WAt w lb [x, y, z, t]) (hx : x.length ≤ 4000000) (hy : y.length ≤ 4000000) (ht : t.length ≤ 4000000) (hcap : 4 ≤ cap) (hv : FSl w v r.flds) (hw : Laid w) :
    Calls Tryz.prog 46 #[.agg (rowA r v), .slice (some ⟨lb, 0, none⟩) 4 cap] w (ReadX w (readR r [x, y, z, t])) := by
  obtain ⟨X, hX⟩ : ∃ X, readR r [x, y, z, t] = X := ⟨_, rfl⟩
  rw [hX]
  have HX := Lib.hid hX
  have HW := Lib.hid hw
  have HF := Lib.hid hf
  have HL := Lib.hid hL
  have l0 : w.cell? ⟨lb, 0, none⟩ = some (.string (BT x)) := hL 0 (by simp)
  have l1 : w.cell? ⟨lb, 1, none⟩ = some (.string (BT y)) := hL 1 (by simp)
  have HLB := Lib.hid (World.block_lt_of_cell? _ _ l0)
  have HS4 : Hid (3 < w.heap.size) := Lib.hid (by obtain ⟨a, b, h⟩ := hw.rng; exact World.block_lt_of_cell? _ _ h)
  have HCU := fun w (h : Laid w) => Lib.hid (cut_any hy h)
  have HWX := fun w (h : Laid w) => Lib.hid (whole_any hx h)
  rw [hf] at hv
  clear hX hw hf hL
  obtain ⟨b, _, _, hve, hb, rfl, rfl⟩ := hv
  have HVE := Lib.hid hve
  have HBF := Lib.hid hb
  clear hve hb
  obtain ⟨w0, hw0⟩ : ∃ w0, w.alloc (.cells (rowA r v) 70) = w0 := ⟨_, rfl⟩
  obtain ⟨bR, tR⟩ := alloc1 hw0
  obtain ⟨w1, hw1⟩ : ∃ w1, w0.alloc (.cells (evC zeroE) 34) = w1 := ⟨_, rfl⟩
  obtain ⟨bE, tE⟩ := alloc1 hw1
  have hs0 : w0.heap.size = w.heap.size + 1 := by rw [← hw0, World.size_alloc]
  rw [hs0] at bE
  obtain ⟨RB, hRB⟩ : ∃ RB, w.heap.size = RB := ⟨_, rfl⟩
  have HRB := Lib.hid hRB
  have R1 : Hid (RowBox w1 RB r v) := Lib.hid (by rw [← hRB]; exact (tE.block _ (heap_lt bR) (fun h => h)).trans bR)
  have E1 : Hid (EvAt w1 (RB + 1) zeroE) := Lib.hid (by rw [← hRB]; exact bE)
  have T1 := Lib.hid (tR.trans tE)
  have m0 := cell_turn T1.out l0
  have m1 := cell_turn T1.out l1
  have M0 := Lib.hid m0
  have hw0' : w.alloc (.cells #[.int .i64 r.kind, .int .i64 r.tag, .string (BT r.word), .string (BT r.msg), v] 70) = w0 := hw0
  have hw1' : w0.alloc (.cells #[.int .i64 0, .int .i64 0, .string ⟨#[]⟩, .int .i64 0, .string ⟨#[]⟩, .int .i64 0, .int .i64 0, .int .i64 0, .string ⟨#[]⟩] 34) = w1 := hw1
  clear bR tR bE tE hw0 hw1 l0 l1 m0
  unfold rowA
  go_enter Tryz.func46, Tryz.ntmps46
  go_wp2_with fail
  refine (HCU _ (HW.out.turn T1.out)).out.mono ?_
  rintro e w2 ⟨rfl, t2⟩
  have T2 := Lib.hid (T1.out.trans t2)
  have R2 := Lib.hid (R1.out.turn t2)
  have E2 := Lib.hid (E1.out.turn t2)
  have M2 := Lib.hid (cell_turn t2 M0.out)
  clear t2 m1
  unfold cutA
  cases hcu : cutC 64 y with
  | none =>
    obtain rfl : X = none := by rw [← HX.out]; unfold readR; rw [show readH r (([x, y, z, t] : List Bs)[0]?.getD []) (([x, y, z, t] : List Bs)[1]?.getD []) = none from readH_none1 hcu]
    clear hcu
    go_wp2_with fail
    refine (need_no _).mono ?_
    rintro e wn ⟨rfl, rfl⟩
    exact ⟨rfl, rfl, T2.out⟩
  | some p =>
    obtain ⟨a, p⟩ := p
    have hya := (cutC_some hcu).1
    have hal : a.length ≤ 4000000 := by rw [hya] at hy; simp at hy; omega
    have hpl : p.length ≤ 4000000 := by rw [hya] at hy; simp at hy; omega
    have HCA := Lib.hid hcu
    have HAC := fun w (h : Laid w) => Lib.hid (actor_any hal h)
    have HWP := fun w (h : Laid w) => Lib.hid (whole_any hpl h)
    clear hcu hya hal hpl
    simp only
    cases hac : actorL a with
    | false =>
      obtain rfl : X = none := by rw [← HX.out]; unfold readR; rw [show readH r (([x, y, z, t] : List Bs)[0]?.getD []) (([x, y, z, t] : List Bs)[1]?.getD []) = none from readH_none2 HCA.out hac]
      simp only [hac] at HAC
      clear hac
      go_wp2_with fail
      refine (HAC _ (HW.out.turn T2.out)).out.mono ?_
      rintro e w3 ⟨rfl, t3⟩
      have T3 := Lib.hid (T2.out.trans t3)
      clear t3
      go_wp2_with fail
      refine (need_no _).mono ?_
      rintro e wn ⟨rfl, rfl⟩
      exact ⟨rfl, rfl, T3.out⟩
    | true =>
      have HA := Lib.hid hac
      simp only [hac] at HAC
      clear hac
      go_wp2_with fail
      refine (HAC _ (HW.out.turn T2.out)).out.mono ?_
      rintro e w3 ⟨rfl, t3⟩
      have T3 := Lib.hid (T2.out.trans t3)
      have R3 := Lib.hid (R2.out.turn t3)
      have E3 := Lib.hid (E2.out.turn t3)
      have M3 := Lib.hid (cell_turn t3 M2.out)
      clear t3
      go_wp2_with fail
      refine (need_yes _).mono ?_
      rintro e w3 ⟨rfl, rfl⟩
      go_upto_region 3 with (fail)
      refine held_begin (fun u => RowBox u RB r v ∧ u.cell? ⟨lb, 0, none⟩ = some (.string (BT x))) (by kernel_rfl) ?_
      generalize hwd : World.drew w3 = wd
      have VD : Hid (Turn Nn w wd) := Lib.hid (by rw [← hwd]; exact T3.out.drew)
      have SD : Hid (RowBox wd RB r v ∧ wd.cell? ⟨lb, 0, none⟩ = some (.string (BT x))) := Lib.hid (by rw [← hwd]; exact ⟨R3.out, M3.out⟩)
      have ED : Hid (EvAt wd (RB + 1) zeroE) := Lib.hid (by rw [← hwd]; exact E3.out)
      clear hwd
      refine held_take 0 ?_ rfl (by kernel_rfl) (by kernel_rfl) (by kernel_rfl) (fun _ _ _ h => h) (Or.inl ⟨by kernel_rfl, ?_⟩) SD.out ?_
      rotate_left 1
      · intro u hu; obtain ⟨hu1, hu2⟩ := hu; obtain ⟨x0, x1, x2, x3, x4⟩ := rowCells hu1; go_simp; first | done | with_reducible rfl
      try simp only [Act.put, nA, nB, nC, nD, nE, nF]
      refine held_take 1 ?_ rfl (by kernel_rfl) (by kernel_rfl) (by kernel_rfl) (fun _ _ _ h => h) (Or.inl ⟨by kernel_rfl, ?_⟩) SD.out ?_
      rotate_left 1
      · intro u hu; obtain ⟨hu1, hu2⟩ := hu; obtain ⟨x0, x1, x2, x3, x4⟩ := rowCells hu1; go_simp; first | done | with_reducible rfl
      try simp only [Act.put, nA, nB, nC, nD, nE, nF]
      refine held_take 2 ?_ rfl (by kernel_rfl) (by kernel_rfl) (by kernel_rfl) (fun _ _ _ h => h) (Or.inl ⟨by kernel_rfl, ?_⟩) SD.out ?_
      rotate_left 1
      · intro u hu; obtain ⟨hu1, hu2⟩ := hu; obtain ⟨x0, x1, x2, x3, x4⟩ := rowCells hu1; go_simp; first | done | with_reducible rfl
      try simp only [Act.put, nA, nB, nC, nD, nE, nF]
      refine held_take 3 ?_ rfl (by kernel_rfl) (by kernel_rfl) (by kernel_rfl) (fun _ _ _ h => h) (Or.inl ⟨by kernel_rfl, ?_⟩) SD.out ?_
      rotate_left 1
      · intro u hu; obtain ⟨hu1, hu2⟩ := hu; obtain ⟨x0, x1, x2, x3, x4⟩ := rowCells hu1; go_simp; first | done | with_reducible rfl
      try simp only [Act.put, nA, nB, nC, nD, nE, nF]
      refine held_take 4 ?_ rfl (by kernel_rfl) (by kernel_rfl) (by kernel_rfl) (fun _ _ _ h => h) (Or.inl ⟨by kernel_rfl, ?_⟩) SD.out ?_
      rotate_left 1
      · intro u hu; obtain ⟨hu1, hu2⟩ := hu; obtain ⟨x0, x1, x2, x3, x4⟩ := rowCells hu1; go_simp; first | done | with_reducible rfl
      try simp only [Act.put, nA, nB, nC, nD, nE, nF]
      refine held_take 6 ?_ rfl (by kernel_rfl) (by kernel_rfl) (by kernel_rfl) (fun _ _ _ h => h) (Or.inl ⟨by kernel_rfl, ?_⟩) SD.out ?_
      rotate_left 1
      · intro u hu; obtain ⟨hu1, hu2⟩ := hu; obtain ⟨x0, x1, x2, x3, x4⟩ := rowCells hu1; go_simp; first | done | with_reducible rfl
      try simp only [Act.put, nA, nB, nC, nD, nE, nF]
      refine held_take 7 ?_ rfl (by kernel_rfl) (by kernel_rfl) (by kernel_rfl) (fun _ _ _ h => h) (Or.inl ⟨by kernel_rfl, ?_⟩) SD.out ?_
      rotate_left 1
      · intro u hu; obtain ⟨hu1, hu2⟩ := hu; obtain ⟨x0, x1, x2, x3, x4⟩ := rowCells hu1; go_simp; first | done | with_reducible rfl
      try simp only [Act.put, nA, nB, nC, nD, nE, nF]
      refine held_take 9 ?_ rfl (by kernel_rfl) (by kernel_rfl) (by kernel_rfl) (fun _ _ _ h => h) (Or.inl ⟨by kernel_rfl, ?_⟩) SD.out ?_
      rotate_left 1
      · intro u hu; obtain ⟨hu1, hu2⟩ := hu; obtain ⟨x0, x1, x2, x3, x4⟩ := rowCells hu1; go_simp; first | done | with_reducible rfl
      try simp only [Act.put, nA, nB, nC, nD, nE, nF]
      refine held_take 10 ?_ rfl (by kernel_rfl) (by kernel_rfl) (by kernel_rfl) (fun _ _ _ h => h) (Or.inl ⟨by kernel_rfl, ?_⟩) SD.out ?_
      rotate_left 1
      · intro u hu; obtain ⟨hu1, hu2⟩ := hu; obtain ⟨x0, x1, x2, x3, x4⟩ := rowCells hu1; go_simp; first | done | with_reducible rfl
      try simp only [Act.put, nA, nB, nC, nD, nE, nF]
      cases hwx : wholeL x with
      | none =>
        obtain rfl : X = none := by rw [← HX.out]; unfold readR; rw [show readH r (([x, y, z, t] : List Bs)[0]?.getD []) (([x, y, z, t] : List Bs)[1]?.getD []) = none from readH_none3 HCA.out HA.out hwx]
        simp only [hwx] at HWX
        clear hwx
        refine held_one 5 (by kernel_rfl) rfl (by kernel_rfl) (fun K hK => ?_)
        go_simp
        refine (HWX _ (HW.out.turn VD.out)).out.mono ?_
        rintro e w4 ⟨he, t4⟩
        obtain rfl : e = badE := he
        exact ⟨rfl, rfl, VD.out.trans t4⟩
      | some sl =>
        have HSL := Lib.hid hwx
        simp only [hwx] at HWX
        clear hwx
        refine held_one 5 (by kernel_rfl) rfl (by kernel_rfl) (fun K hK => ?_)
        go_simp
        refine (HWX _ (HW.out.turn VD.out)).out.mono ?_
        rintro e w4 ⟨he, t4⟩
        obtain rfl : e = .returned (.int .i64 sl) := he
        have T4 := Lib.hid (VD.out.trans t4)
        have S4 : Hid (RowBox w4 RB r v ∧ w4.cell? ⟨lb, 0, none⟩ = some (.string (BT x))) := Lib.hid ⟨SD.out.1.turn t4, cell_turn t4 SD.out.2⟩
        have E4 := Lib.hid (ED.out.turn t4)
        clear t4
        refine hK _ _ S4.out ?_
        clear hK K
        try simp only [Act.put, nA, nB, nC, nD, nE, nF]
        cases hwp : wholeL p with
        | none =>
          obtain rfl : X = none := by rw [← HX.out]; unfold readR; rw [show readH r (([x, y, z, t] : List Bs)[0]?.getD []) (([x, y, z, t] : List Bs)[1]?.getD []) = none from readH_none4 HCA.out HA.out hwp]
          simp only [hwp] at HWP
          clear hwp
          refine held_one 8 (by kernel_rfl) rfl (by kernel_rfl) (fun K hK => ?_)
          go_simp
          refine (HWP _ (HW.out.turn T4.out)).out.mono ?_
          rintro e w5 ⟨he, t5⟩
          obtain rfl : e = badE := he
          exact ⟨rfl, rfl, T4.out.trans t5⟩
        | some pc =>
          have HPC := Lib.hid hwp
          simp only [hwp] at HWP
          clear hwp
          refine held_one 8 (by kernel_rfl) rfl (by kernel_rfl) (fun K hK => ?_)
          go_simp
          refine (HWP _ (HW.out.turn T4.out)).out.mono ?_
          rintro e w5 ⟨he, t5⟩
          obtain rfl : e = .returned (.int .i64 pc) := he
          have T5 := Lib.hid (T4.out.trans t5)
          have S5 : Hid (RowBox w5 RB r v ∧ w5.cell? ⟨lb, 0, none⟩ = some (.string (BT x))) := Lib.hid ⟨S4.out.1.turn t5, cell_turn t5 S4.out.2⟩
          have E5 := Lib.hid (E4.out.turn t5)
          clear t5
          refine hK _ _ S5.out ?_
          clear hK K
          try simp only [Act.put, nA, nB, nC, nD, nE, nF]
          refine held_take 11 ?_ rfl (by kernel_rfl) (by kernel_rfl) (by kernel_rfl) (fun _ _ _ h => h) (Or.inl ⟨by kernel_rfl, ?_⟩) S5.out ?_
          rotate_left 1
          · intro u hu; obtain ⟨hu1, hu2⟩ := hu; obtain ⟨x0, x1, x2, x3, x4⟩ := rowCells hu1; go_simp; first | done | with_reducible rfl
          try simp only [Act.put, nA, nB, nC, nD, nE, nF]
          obtain ⟨y0, y1, y2, y3, y4, y5, y6, y7, y8⟩ := evCells E5.out
          obtain ⟨z0, z1, z2, z3, z4, z5, z6, z7, z8⟩ := evFree E5.out
          refine held_one 12 (by kernel_rfl) rfl (by kernel_rfl) (fun K hK => ?_)
          go_simp
          generalize hws : World.setCell _ _ _ = w6
          have E6 : Hid (EvAt w6 (RB + 1) ⟨r.kind, sl, a, pc, [], 0, r.tag, 0, []⟩) := Lib.hid (by rw [← hws]; exact set9_at E5.out ⟨r.kind, sl, a, pc, [], 0, r.tag, 0, []⟩)
          have K6 : Turn (At1 (RB + 1)) w5 w6 := by rw [← hws]; exact set9_turn (B := RB + 1) ⟨r.kind, sl, a, pc, [], 0, r.tag, 0, []⟩
          have T6 := Lib.hid (T5.out.off K6 (by have := HRB.out; omega))
          have S6 : Hid (RowBox w6 RB r v ∧ w6.cell? ⟨lb, 0, none⟩ = some (.string (BT x))) := Lib.hid ⟨(K6.block RB (heap_lt S5.out.1) (fun e => by have h : RB = RB + 1 := e; omega)).trans S5.out.1, cell_at1 K6 S5.out.2 (by show lb ≠ RB + 1; have h1 := HLB.out; have h2 := HRB.out; omega)⟩
          clear hws K6 y0 y1 y2 y3 y4 y5 y6 y7 y8 z0 z1 z2 z3 z4 z5 z6 z7 z8
          refine hK _ _ S6.out ?_
          clear hK K
          try simp only [Act.put, nA, nB, nC, nD, nE, nF]
          refine wpAnyH_done (by kernel_rfl) ?_ _
          have q1 : w6.cell? ⟨RB + 1, 1, none⟩ = some (.int .i64 sl) := (evCells E6.out).2.1
          have q3 : w6.cell? ⟨RB + 1, 3, none⟩ = some (.int .i64 pc) := (evCells E6.out).2.2.2.1
          have x4 := (rowCells S6.out.1).2.2.2.2
          rw [HVE.out] at x4
          by_cases h0 : 0 ≤ sl
          · by_cases h1 : 0 ≤ pc
            · have HRH := Lib.hid (readH_yes (r := r) HCA.out HA.out HSL.out HPC.out ⟨h0, h1⟩)
              go_wp2_with fail
              refine (need_yes _).mono ?_
              rintro e w6 ⟨rfl, rfl⟩
              clear q1 q3 h0 h1
              go_wp2_with fail
              have f1a : w6.cell? ⟨b, 0, none⟩ = some (.func (.func 92) #[] #[]) := cell_blk ((T6.out.block b (heap_lt HBF.out) (fun h => h)).trans HBF.out)
              have f1b : w6.cell? ⟨b, 1, none⟩ = some (.func (.func 93) #[] #[]) := cell_blk ((T6.out.block b (heap_lt HBF.out) (fun h => h)).trans HBF.out)
              obtain ⟨j1, j2, j3, e1, e2, e3, kb, tb⟩ := box95 w6 (t := .func (.func 92) #[] #[]) (r := .func (.func 93) #[] #[]) rfl rfl
              have g1 : j3.cell? ⟨w6.heap.size, 1, none⟩ = some (.func (.func 93) #[] #[]) := cell_blk kb
              have G1 := Lib.hid g1
              have U1 := Lib.hid (T6.out.trans tb)
              have Q1 := Lib.hid (E6.out.turn tb)
              have N1 : Hid (w6.heap.size ≠ RB + 1) := Lib.hid (by have := heap_lt E6.out; omega)
              have O1 : Hid (j3.cell? ⟨lb, 3, none⟩ = some (.string (BT t))) := Lib.hid (cell_turn U1.out (HL.out 3 (by simp)))
              clear kb tb g1
              refine wp_loop_rounds 2 ?_
              rw [rounds_succ]
              go_upto_region 11 with (fail)
              clear f1a f1b e1 e2 e3
              obtain ⟨n1, hn1⟩ : ∃ n, w6.heap.size = n := ⟨_, rfl⟩
              rw [hn1] at G1 N1 ⊢
              clear hn1
              refine held_begin (fun uu => uu.cell? ⟨n1, 1, none⟩ = some (.func (.func 93) #[] #[]) ∧ uu.cell? ⟨lb, 3, none⟩ = some (.string (BT t))) (by kernel_rfl) ?_
              generalize hwd : World.drew j3 = wd
              have VD1 : Hid (Turn Nn w wd) := Lib.hid (by rw [← hwd]; exact U1.out.drew)
              have SD1 : Hid (wd.cell? ⟨n1, 1, none⟩ = some (.func (.func 93) #[] #[]) ∧ wd.cell? ⟨lb, 3, none⟩ = some (.string (BT t))) := Lib.hid (by rw [← hwd]; exact ⟨G1.out, O1.out⟩)
              have ED1 : Hid (EvAt wd (RB + 1) ⟨r.kind, sl, a, pc, [], 0, r.tag, 0, []⟩) := Lib.hid (by rw [← hwd]; exact Q1.out)
              clear hwd
              have HRD := Lib.hid (read_word (s := t) ht ED1.out (HW.out.turn VD1.out))
              refine held_take 0 ?_ rfl (by kernel_rfl) (by kernel_rfl) (by kernel_rfl) (fun _ _ _ h => h) (Or.inl ⟨by kernel_rfl, ?_⟩) SD1.out ?_
              rotate_left 1
              · intro u hu; obtain ⟨hu1, hu2⟩ := hu; go_simp; first | done | with_reducible rfl
              try simp only [Act.put, nA, nB, nC, nD, nE, nF]
              refine held_take 1 ?_ rfl (by kernel_rfl) (by kernel_rfl) (by kernel_rfl) (fun _ _ _ h => h) (Or.inl ⟨by kernel_rfl, ?_⟩) SD1.out ?_
              rotate_left 1
              · intro u hu; obtain ⟨hu1, hu2⟩ := hu; go_simp; first | done | with_reducible rfl
              try simp only [Act.put, nA, nB, nC, nD, nE, nF]
              refine held_take 2 ?_ rfl (by kernel_rfl) (by kernel_rfl) (by kernel_rfl) (fun _ _ _ h => h) (Or.inl ⟨by kernel_rfl, ?_⟩) SD1.out ?_
              rotate_left 1
              · intro u hu; obtain ⟨hu1, hu2⟩ := hu; go_simp; first | done | with_reducible rfl
              try simp only [Act.put, nA, nB, nC, nD, nE, nF]
              refine held_take 3 ?_ rfl (by kernel_rfl) (by kernel_rfl) (by kernel_rfl) (fun _ _ _ h => h) (Or.inl ⟨by kernel_rfl, ?_⟩) SD1.out ?_
              rotate_left 1
              · intro u hu; obtain ⟨hu1, hu2⟩ := hu; go_simp; first | done | with_reducible rfl
              try simp only [Act.put, nA, nB, nC, nD, nE, nF]
              refine held_take 4 ?_ rfl (by kernel_rfl) (by kernel_rfl) (by kernel_rfl) (fun _ _ _ h => h) (Or.inl ⟨by kernel_rfl, ?_⟩) SD1.out ?_
              rotate_left 1
              · intro u hu; obtain ⟨hu1, hu2⟩ := hu; go_simp; first | done | with_reducible rfl
              try simp only [Act.put, nA, nB, nC, nD, nE, nF]
              refine held_take 5 ?_ rfl (by kernel_rfl) (by kernel_rfl) (by kernel_rfl) (fun _ _ _ h => h) (Or.inl ⟨by kernel_rfl, ?_⟩) SD1.out ?_
              rotate_left 1
              · intro u hu; obtain ⟨hu1, hu2⟩ := hu; go_simp; first | done | with_reducible rfl
              try simp only [Act.put, nA, nB, nC, nD, nE, nF]
              cases hrf1 : readF .word ⟨r.kind, sl, a, pc, [], 0, r.tag, 0, []⟩ t with
              | none =>
                simp only [hrf1] at HRD
                obtain rfl : X = none := by rw [← HX.out]; unfold readR; rw [show readH r (([x, y, z, t] : List Bs)[0]?.getD []) (([x, y, z, t] : List Bs)[1]?.getD []) = _ from HRH.out, HF.out]; exact hrf1
                refine held_one 6 (by kernel_rfl) rfl (by kernel_rfl) (fun K hK => ?_)
                go_simp
                refine HRD.out.mono ?_
                rintro e w8 ⟨he, t8⟩
                obtain rfl : e = badE := he
                exact ⟨rfl, rfl, VD1.out.off t8 (by have := HRB.out; omega)⟩
              | some E8e =>
                simp only [hrf1] at HRD
                have HRF1 := Lib.hid hrf1
                clear hrf1
                refine held_one 6 (by kernel_rfl) rfl (by kernel_rfl) (fun K hK => ?_)
                go_simp
                refine HRD.out.mono ?_
                rintro e w8 ⟨he, t8⟩
                obtain ⟨rfl, hE8⟩ := he
                have E8 := Lib.hid hE8
                have T8 := Lib.hid (VD1.out.off t8 (by have := HRB.out; omega))
                have S1z : Hid (w8.cell? ⟨n1, 1, none⟩ = some (.func (.func 93) #[] #[]) ∧ w8.cell? ⟨lb, 3, none⟩ = some (.string (BT t))) := Lib.hid ⟨cell_at1 t8 SD1.out.1 N1.out, cell_at1 t8 SD1.out.2 (by show lb ≠ RB + 1; have h1 := HLB.out; have h2 := HRB.out; omega)⟩
                clear t8 hE8
                refine hK _ _ S1z.out ?_
                clear hK K
                try simp only [Act.put, nA, nB, nC, nD, nE, nF]
                refine wpAnyH_done (by kernel_rfl) ?_ _
                obtain ⟨y0, y1, y2, y3, y4, y5, y6, y7, y8⟩ := evCells E8.out
                obtain ⟨z0, z1, z2, z3, z4, z5, z6, z7, z8⟩ := evFree E8.out
                go_wp2_with fail
                rw [rounds_succ]
                go_wp2_with fail
                obtain rfl : X = some E8e := by rw [← HX.out]; unfold readR; rw [show readH r (([x, y, z, t] : List Bs)[0]?.getD []) (([x, y, z, t] : List Bs)[1]?.getD []) = _ from HRH.out, HF.out]; exact HRF1.out
                refine bodyPost_ret (v := .agg (evC E8e)) (results_cell_row rfl _ _ (RB + 1) 34 _ (0, 0) _ rfl (set9_at E8.out E8e) Tryz.underlying34 rfl (by kernel_rfl)) rfl ?_
                exact ⟨rfl, T8.out.off (set9_turn E8e) (by have := HRB.out; omega)⟩
            · obtain rfl : X = none := by rw [← HX.out]; unfold readR; rw [show readH r (([x, y, z, t] : List Bs)[0]?.getD []) (([x, y, z, t] : List Bs)[1]?.getD []) = none from readH_none5 HCA.out HA.out HSL.out HPC.out (fun h => h1 h.2)]
              go_wp2_with fail
              refine (need_no _).mono ?_
              rintro e w6 ⟨rfl, rfl⟩
              exact ⟨rfl, rfl, T6.out⟩
          · obtain rfl : X = none := by rw [← HX.out]; unfold readR; rw [show readH r (([x, y, z, t] : List Bs)[0]?.getD []) (([x, y, z, t] : List Bs)[1]?.getD []) = none from readH_none5 HCA.out HA.out HSL.out HPC.out (fun h => h0 h.1)]
            go_wp2_with fail
            refine (need_no _).mono ?_
            rintro e w6 ⟨rfl, rfl⟩
            exact ⟨rfl, rfl, T6.out⟩
set_option maxRecDepth 100000 in
set_option maxHeartbeats 40000000 in
theorem row_read_one_made {r : RowD} (hf : r.flds = [.made]) {x y z t : Bs} {v : Value} {w : World} {lb cap : Nat} (hL : WAt w lb [x, y, z, t]) (hx : x.length ≤ 4000000) (hy : y.length ≤ 4000000) (ht : t.length ≤ 4000000) (hcap : 4 ≤ cap) (hv : FSl w v r.flds) (hw : Laid w) :
    Calls Tryz.prog 46 #[.agg (rowA r v), .slice (some ⟨lb, 0, none⟩) 4 cap] w (ReadX w (readR r [x, y, z, t])) := by
  obtain ⟨X, hX⟩ : ∃ X, readR r [x, y, z, t] = X := ⟨_, rfl⟩
  rw [hX]
  have HX := Lib.hid hX
  have HW := Lib.hid hw
  have HF := Lib.hid hf
  have HL := Lib.hid hL
  have l0 : w.cell? ⟨lb, 0, none⟩ = some (.string (BT x)) := hL 0 (by simp)
  have l1 : w.cell? ⟨lb, 1, none⟩ = some (.string (BT y)) := hL 1 (by simp)
  have HLB := Lib.hid (World.block_lt_of_cell? _ _ l0)
  have HS4 : Hid (3 < w.heap.size) := Lib.hid (by obtain ⟨a, b, h⟩ := hw.rng; exact World.block_lt_of_cell? _ _ h)
  have HCU := fun w (h : Laid w) => Lib.hid (cut_any hy h)
  have HWX := fun w (h : Laid w) => Lib.hid (whole_any hx h)
  rw [hf] at hv
  clear hX hw hf hL
  obtain ⟨b, _, _, hve, hb, rfl, rfl⟩ := hv
  have HVE := Lib.hid hve
  have HBF := Lib.hid hb
  clear hve hb
  obtain ⟨w0, hw0⟩ : ∃ w0, w.alloc (.cells (rowA r v) 70) = w0 := ⟨_, rfl⟩
  obtain ⟨bR, tR⟩ := alloc1 hw0
  obtain ⟨w1, hw1⟩ : ∃ w1, w0.alloc (.cells (evC zeroE) 34) = w1 := ⟨_, rfl⟩
  obtain ⟨bE, tE⟩ := alloc1 hw1
  have hs0 : w0.heap.size = w.heap.size + 1 := by rw [← hw0, World.size_alloc]
  rw [hs0] at bE
  obtain ⟨RB, hRB⟩ : ∃ RB, w.heap.size = RB := ⟨_, rfl⟩
  have HRB := Lib.hid hRB
  have R1 : Hid (RowBox w1 RB r v) := Lib.hid (by rw [← hRB]; exact (tE.block _ (heap_lt bR) (fun h => h)).trans bR)
  have E1 : Hid (EvAt w1 (RB + 1) zeroE) := Lib.hid (by rw [← hRB]; exact bE)
  have T1 := Lib.hid (tR.trans tE)
  have m0 := cell_turn T1.out l0
  have m1 := cell_turn T1.out l1
  have M0 := Lib.hid m0
  have hw0' : w.alloc (.cells #[.int .i64 r.kind, .int .i64 r.tag, .string (BT r.word), .string (BT r.msg), v] 70) = w0 := hw0
  have hw1' : w0.alloc (.cells #[.int .i64 0, .int .i64 0, .string ⟨#[]⟩, .int .i64 0, .string ⟨#[]⟩, .int .i64 0, .int .i64 0, .int .i64 0, .string ⟨#[]⟩] 34) = w1 := hw1
  clear bR tR bE tE hw0 hw1 l0 l1 m0
  unfold rowA
  go_enter Tryz.func46, Tryz.ntmps46
  go_wp2_with fail
  refine (HCU _ (HW.out.turn T1.out)).out.mono ?_
  rintro e w2 ⟨rfl, t2⟩
  have T2 := Lib.hid (T1.out.trans t2)
  have R2 := Lib.hid (R1.out.turn t2)
  have E2 := Lib.hid (E1.out.turn t2)
  have M2 := Lib.hid (cell_turn t2 M0.out)
  clear t2 m1
  unfold cutA
  cases hcu : cutC 64 y with
  | none =>
    obtain rfl : X = none := by rw [← HX.out]; unfold readR; rw [show readH r (([x, y, z, t] : List Bs)[0]?.getD []) (([x, y, z, t] : List Bs)[1]?.getD []) = none from readH_none1 hcu]
    clear hcu
    go_wp2_with fail
    refine (need_no _).mono ?_
    rintro e wn ⟨rfl, rfl⟩
    exact ⟨rfl, rfl, T2.out⟩
  | some p =>
    obtain ⟨a, p⟩ := p
    have hya := (cutC_some hcu).1
    have hal : a.length ≤ 4000000 := by rw [hya] at hy; simp at hy; omega
    have hpl : p.length ≤ 4000000 := by rw [hya] at hy; simp at hy; omega
    have HCA := Lib.hid hcu
    have HAC := fun w (h : Laid w) => Lib.hid (actor_any hal h)
    have HWP := fun w (h : Laid w) => Lib.hid (whole_any hpl h)
    clear hcu hya hal hpl
    simp only
    cases hac : actorL a with
    | false =>
      obtain rfl : X = none := by rw [← HX.out]; unfold readR; rw [show readH r (([x, y, z, t] : List Bs)[0]?.getD []) (([x, y, z, t] : List Bs)[1]?.getD []) = none from readH_none2 HCA.out hac]
      simp only [hac] at HAC
      clear hac
      go_wp2_with fail
      refine (HAC _ (HW.out.turn T2.out)).out.mono ?_
      rintro e w3 ⟨rfl, t3⟩
      have T3 := Lib.hid (T2.out.trans t3)
      clear t3
      go_wp2_with fail
      refine (need_no _).mono ?_
      rintro e wn ⟨rfl, rfl⟩
      exact ⟨rfl, rfl, T3.out⟩
    | true =>
      have HA := Lib.hid hac
      simp only [hac] at HAC
      clear hac
      go_wp2_with fail
      refine (HAC _ (HW.out.turn T2.out)).out.mono ?_
      rintro e w3 ⟨rfl, t3⟩
      have T3 := Lib.hid (T2.out.trans t3)
      have R3 := Lib.hid (R2.out.turn t3)
      have E3 := Lib.hid (E2.out.turn t3)
      have M3 := Lib.hid (cell_turn t3 M2.out)
      clear t3
      go_wp2_with fail
      refine (need_yes _).mono ?_
      rintro e w3 ⟨rfl, rfl⟩
      go_upto_region 3 with (fail)
      refine held_begin (fun u => RowBox u RB r v ∧ u.cell? ⟨lb, 0, none⟩ = some (.string (BT x))) (by kernel_rfl) ?_
      generalize hwd : World.drew w3 = wd
      have VD : Hid (Turn Nn w wd) := Lib.hid (by rw [← hwd]; exact T3.out.drew)
      have SD : Hid (RowBox wd RB r v ∧ wd.cell? ⟨lb, 0, none⟩ = some (.string (BT x))) := Lib.hid (by rw [← hwd]; exact ⟨R3.out, M3.out⟩)
      have ED : Hid (EvAt wd (RB + 1) zeroE) := Lib.hid (by rw [← hwd]; exact E3.out)
      clear hwd
      refine held_take 0 ?_ rfl (by kernel_rfl) (by kernel_rfl) (by kernel_rfl) (fun _ _ _ h => h) (Or.inl ⟨by kernel_rfl, ?_⟩) SD.out ?_
      rotate_left 1
      · intro u hu; obtain ⟨hu1, hu2⟩ := hu; obtain ⟨x0, x1, x2, x3, x4⟩ := rowCells hu1; go_simp; first | done | with_reducible rfl
      try simp only [Act.put, nA, nB, nC, nD, nE, nF]
      refine held_take 1 ?_ rfl (by kernel_rfl) (by kernel_rfl) (by kernel_rfl) (fun _ _ _ h => h) (Or.inl ⟨by kernel_rfl, ?_⟩) SD.out ?_
      rotate_left 1
      · intro u hu; obtain ⟨hu1, hu2⟩ := hu; obtain ⟨x0, x1, x2, x3, x4⟩ := rowCells hu1; go_simp; first | done | with_reducible rfl
      try simp only [Act.put, nA, nB, nC, nD, nE, nF]
      refine held_take 2 ?_ rfl (by kernel_rfl) (by kernel_rfl) (by kernel_rfl) (fun _ _ _ h => h) (Or.inl ⟨by kernel_rfl, ?_⟩) SD.out ?_
      rotate_left 1
      · intro u hu; obtain ⟨hu1, hu2⟩ := hu; obtain ⟨x0, x1, x2, x3, x4⟩ := rowCells hu1; go_simp; first | done | with_reducible rfl
      try simp only [Act.put, nA, nB, nC, nD, nE, nF]
      refine held_take 3 ?_ rfl (by kernel_rfl) (by kernel_rfl) (by kernel_rfl) (fun _ _ _ h => h) (Or.inl ⟨by kernel_rfl, ?_⟩) SD.out ?_
      rotate_left 1
      · intro u hu; obtain ⟨hu1, hu2⟩ := hu; obtain ⟨x0, x1, x2, x3, x4⟩ := rowCells hu1; go_simp; first | done | with_reducible rfl
      try simp only [Act.put, nA, nB, nC, nD, nE, nF]
      refine held_take 4 ?_ rfl (by kernel_rfl) (by kernel_rfl) (by kernel_rfl) (fun _ _ _ h => h) (Or.inl ⟨by kernel_rfl, ?_⟩) SD.out ?_
      rotate_left 1
      · intro u hu; obtain ⟨hu1, hu2⟩ := hu; obtain ⟨x0, x1, x2, x3, x4⟩ := rowCells hu1; go_simp; first | done | with_reducible rfl
      try simp only [Act.put, nA, nB, nC, nD, nE, nF]
      refine held_take 6 ?_ rfl (by kernel_rfl) (by kernel_rfl) (by kernel_rfl) (fun _ _ _ h => h) (Or.inl ⟨by kernel_rfl, ?_⟩) SD.out ?_
      rotate_left 1
      · intro u hu; obtain ⟨hu1, hu2⟩ := hu; obtain ⟨x0, x1, x2, x3, x4⟩ := rowCells hu1; go_simp; first | done | with_reducible rfl
      try simp only [Act.put, nA, nB, nC, nD, nE, nF]
      refine held_take 7 ?_ rfl (by kernel_rfl) (by kernel_rfl) (by kernel_rfl) (fun _ _ _ h => h) (Or.inl ⟨by kernel_rfl, ?_⟩) SD.out ?_
      rotate_left 1
      · intro u hu; obtain ⟨hu1, hu2⟩ := hu; obtain ⟨x0, x1, x2, x3, x4⟩ := rowCells hu1; go_simp; first | done | with_reducible rfl
      try simp only [Act.put, nA, nB, nC, nD, nE, nF]
      refine held_take 9 ?_ rfl (by kernel_rfl) (by kernel_rfl) (by kernel_rfl) (fun _ _ _ h => h) (Or.inl ⟨by kernel_rfl, ?_⟩) SD.out ?_
      rotate_left 1
      · intro u hu; obtain ⟨hu1, hu2⟩ := hu; obtain ⟨x0, x1, x2, x3, x4⟩ := rowCells hu1; go_simp; first | done | with_reducible rfl
      try simp only [Act.put, nA, nB, nC, nD, nE, nF]
      refine held_take 10 ?_ rfl (by kernel_rfl) (by kernel_rfl) (by kernel_rfl) (fun _ _ _ h => h) (Or.inl ⟨by kernel_rfl, ?_⟩) SD.out ?_
      rotate_left 1
      · intro u hu; obtain ⟨hu1, hu2⟩ := hu; obtain ⟨x0, x1, x2, x3, x4⟩ := rowCells hu1; go_simp; first | done | with_reducible rfl
      try simp only [Act.put, nA, nB, nC, nD, nE, nF]
      cases hwx : wholeL x with
      | none =>
        obtain rfl : X = none := by rw [← HX.out]; unfold readR; rw [show readH r (([x, y, z, t] : List Bs)[0]?.getD []) (([x, y, z, t] : List Bs)[1]?.getD []) = none from readH_none3 HCA.out HA.out hwx]
        simp only [hwx] at HWX
        clear hwx
        refine held_one 5 (by kernel_rfl) rfl (by kernel_rfl) (fun K hK => ?_)
        go_simp
        refine (HWX _ (HW.out.turn VD.out)).out.mono ?_
        rintro e w4 ⟨he, t4⟩
        obtain rfl : e = badE := he
        exact ⟨rfl, rfl, VD.out.trans t4⟩
      | some sl =>
        have HSL := Lib.hid hwx
        simp only [hwx] at HWX
        clear hwx
        refine held_one 5 (by kernel_rfl) rfl (by kernel_rfl) (fun K hK => ?_)
        go_simp
        refine (HWX _ (HW.out.turn VD.out)).out.mono ?_
        rintro e w4 ⟨he, t4⟩
        obtain rfl : e = .returned (.int .i64 sl) := he
        have T4 := Lib.hid (VD.out.trans t4)
        have S4 : Hid (RowBox w4 RB r v ∧ w4.cell? ⟨lb, 0, none⟩ = some (.string (BT x))) := Lib.hid ⟨SD.out.1.turn t4, cell_turn t4 SD.out.2⟩
        have E4 := Lib.hid (ED.out.turn t4)
        clear t4
        refine hK _ _ S4.out ?_
        clear hK K
        try simp only [Act.put, nA, nB, nC, nD, nE, nF]
        cases hwp : wholeL p with
        | none =>
          obtain rfl : X = none := by rw [← HX.out]; unfold readR; rw [show readH r (([x, y, z, t] : List Bs)[0]?.getD []) (([x, y, z, t] : List Bs)[1]?.getD []) = none from readH_none4 HCA.out HA.out hwp]
          simp only [hwp] at HWP
          clear hwp
          refine held_one 8 (by kernel_rfl) rfl (by kernel_rfl) (fun K hK => ?_)
          go_simp
          refine (HWP _ (HW.out.turn T4.out)).out.mono ?_
          rintro e w5 ⟨he, t5⟩
          obtain rfl : e = badE := he
          exact ⟨rfl, rfl, T4.out.trans t5⟩
        | some pc =>
          have HPC := Lib.hid hwp
          simp only [hwp] at HWP
          clear hwp
          refine held_one 8 (by kernel_rfl) rfl (by kernel_rfl) (fun K hK => ?_)
          go_simp
          refine (HWP _ (HW.out.turn T4.out)).out.mono ?_
          rintro e w5 ⟨he, t5⟩
          obtain rfl : e = .returned (.int .i64 pc) := he
          have T5 := Lib.hid (T4.out.trans t5)
          have S5 : Hid (RowBox w5 RB r v ∧ w5.cell? ⟨lb, 0, none⟩ = some (.string (BT x))) := Lib.hid ⟨S4.out.1.turn t5, cell_turn t5 S4.out.2⟩
          have E5 := Lib.hid (E4.out.turn t5)
          clear t5
          refine hK _ _ S5.out ?_
          clear hK K
          try simp only [Act.put, nA, nB, nC, nD, nE, nF]
          refine held_take 11 ?_ rfl (by kernel_rfl) (by kernel_rfl) (by kernel_rfl) (fun _ _ _ h => h) (Or.inl ⟨by kernel_rfl, ?_⟩) S5.out ?_
          rotate_left 1
          · intro u hu; obtain ⟨hu1, hu2⟩ := hu; obtain ⟨x0, x1, x2, x3, x4⟩ := rowCells hu1; go_simp; first | done | with_reducible rfl
          try simp only [Act.put, nA, nB, nC, nD, nE, nF]
          obtain ⟨y0, y1, y2, y3, y4, y5, y6, y7, y8⟩ := evCells E5.out
          obtain ⟨z0, z1, z2, z3, z4, z5, z6, z7, z8⟩ := evFree E5.out
          refine held_one 12 (by kernel_rfl) rfl (by kernel_rfl) (fun K hK => ?_)
          go_simp
          generalize hws : World.setCell _ _ _ = w6
          have E6 : Hid (EvAt w6 (RB + 1) ⟨r.kind, sl, a, pc, [], 0, r.tag, 0, []⟩) := Lib.hid (by rw [← hws]; exact set9_at E5.out ⟨r.kind, sl, a, pc, [], 0, r.tag, 0, []⟩)
          have K6 : Turn (At1 (RB + 1)) w5 w6 := by rw [← hws]; exact set9_turn (B := RB + 1) ⟨r.kind, sl, a, pc, [], 0, r.tag, 0, []⟩
          have T6 := Lib.hid (T5.out.off K6 (by have := HRB.out; omega))
          have S6 : Hid (RowBox w6 RB r v ∧ w6.cell? ⟨lb, 0, none⟩ = some (.string (BT x))) := Lib.hid ⟨(K6.block RB (heap_lt S5.out.1) (fun e => by have h : RB = RB + 1 := e; omega)).trans S5.out.1, cell_at1 K6 S5.out.2 (by show lb ≠ RB + 1; have h1 := HLB.out; have h2 := HRB.out; omega)⟩
          clear hws K6 y0 y1 y2 y3 y4 y5 y6 y7 y8 z0 z1 z2 z3 z4 z5 z6 z7 z8
          refine hK _ _ S6.out ?_
          clear hK K
          try simp only [Act.put, nA, nB, nC, nD, nE, nF]
          refine wpAnyH_done (by kernel_rfl) ?_ _
          have q1 : w6.cell? ⟨RB + 1, 1, none⟩ = some (.int .i64 sl) := (evCells E6.out).2.1
          have q3 : w6.cell? ⟨RB + 1, 3, none⟩ = some (.int .i64 pc) := (evCells E6.out).2.2.2.1
          have x4 := (rowCells S6.out.1).2.2.2.2
          rw [HVE.out] at x4
          by_cases h0 : 0 ≤ sl
          · by_cases h1 : 0 ≤ pc
            · have HRH := Lib.hid (readH_yes (r := r) HCA.out HA.out HSL.out HPC.out ⟨h0, h1⟩)
              go_wp2_with fail
              refine (need_yes _).mono ?_
              rintro e w6 ⟨rfl, rfl⟩
              clear q1 q3 h0 h1
              go_wp2_with fail
              have f1a : w6.cell? ⟨b, 0, none⟩ = some (.func (.func 94) #[] #[]) := cell_blk ((T6.out.block b (heap_lt HBF.out) (fun h => h)).trans HBF.out)
              have f1b : w6.cell? ⟨b, 1, none⟩ = some (.func (.func 95) #[] #[]) := cell_blk ((T6.out.block b (heap_lt HBF.out) (fun h => h)).trans HBF.out)
              obtain ⟨j1, j2, j3, e1, e2, e3, kb, tb⟩ := box95 w6 (t := .func (.func 94) #[] #[]) (r := .func (.func 95) #[] #[]) rfl rfl
              have g1 : j3.cell? ⟨w6.heap.size, 1, none⟩ = some (.func (.func 95) #[] #[]) := cell_blk kb
              have G1 := Lib.hid g1
              have U1 := Lib.hid (T6.out.trans tb)
              have Q1 := Lib.hid (E6.out.turn tb)
              have N1 : Hid (w6.heap.size ≠ RB + 1) := Lib.hid (by have := heap_lt E6.out; omega)
              have O1 : Hid (j3.cell? ⟨lb, 3, none⟩ = some (.string (BT t))) := Lib.hid (cell_turn U1.out (HL.out 3 (by simp)))
              clear kb tb g1
              refine wp_loop_rounds 2 ?_
              rw [rounds_succ]
              go_upto_region 11 with (fail)
              clear f1a f1b e1 e2 e3
              obtain ⟨n1, hn1⟩ : ∃ n, w6.heap.size = n := ⟨_, rfl⟩
              rw [hn1] at G1 N1 ⊢
              clear hn1
              refine held_begin (fun uu => uu.cell? ⟨n1, 1, none⟩ = some (.func (.func 95) #[] #[]) ∧ uu.cell? ⟨lb, 3, none⟩ = some (.string (BT t))) (by kernel_rfl) ?_
              generalize hwd : World.drew j3 = wd
              have VD1 : Hid (Turn Nn w wd) := Lib.hid (by rw [← hwd]; exact U1.out.drew)
              have SD1 : Hid (wd.cell? ⟨n1, 1, none⟩ = some (.func (.func 95) #[] #[]) ∧ wd.cell? ⟨lb, 3, none⟩ = some (.string (BT t))) := Lib.hid (by rw [← hwd]; exact ⟨G1.out, O1.out⟩)
              have ED1 : Hid (EvAt wd (RB + 1) ⟨r.kind, sl, a, pc, [], 0, r.tag, 0, []⟩) := Lib.hid (by rw [← hwd]; exact Q1.out)
              clear hwd
              have HRD := Lib.hid (read_made (s := t) ht ED1.out (by have h1 := HS4.out; have h2 := HRB.out; omega) (HW.out.turn VD1.out))
              refine held_take 0 ?_ rfl (by kernel_rfl) (by kernel_rfl) (by kernel_rfl) (fun _ _ _ h => h) (Or.inl ⟨by kernel_rfl, ?_⟩) SD1.out ?_
              rotate_left 1
              · intro u hu; obtain ⟨hu1, hu2⟩ := hu; go_simp; first | done | with_reducible rfl
              try simp only [Act.put, nA, nB, nC, nD, nE, nF]
              refine held_take 1 ?_ rfl (by kernel_rfl) (by kernel_rfl) (by kernel_rfl) (fun _ _ _ h => h) (Or.inl ⟨by kernel_rfl, ?_⟩) SD1.out ?_
              rotate_left 1
              · intro u hu; obtain ⟨hu1, hu2⟩ := hu; go_simp; first | done | with_reducible rfl
              try simp only [Act.put, nA, nB, nC, nD, nE, nF]
              refine held_take 2 ?_ rfl (by kernel_rfl) (by kernel_rfl) (by kernel_rfl) (fun _ _ _ h => h) (Or.inl ⟨by kernel_rfl, ?_⟩) SD1.out ?_
              rotate_left 1
              · intro u hu; obtain ⟨hu1, hu2⟩ := hu; go_simp; first | done | with_reducible rfl
              try simp only [Act.put, nA, nB, nC, nD, nE, nF]
              refine held_take 3 ?_ rfl (by kernel_rfl) (by kernel_rfl) (by kernel_rfl) (fun _ _ _ h => h) (Or.inl ⟨by kernel_rfl, ?_⟩) SD1.out ?_
              rotate_left 1
              · intro u hu; obtain ⟨hu1, hu2⟩ := hu; go_simp; first | done | with_reducible rfl
              try simp only [Act.put, nA, nB, nC, nD, nE, nF]
              refine held_take 4 ?_ rfl (by kernel_rfl) (by kernel_rfl) (by kernel_rfl) (fun _ _ _ h => h) (Or.inl ⟨by kernel_rfl, ?_⟩) SD1.out ?_
              rotate_left 1
              · intro u hu; obtain ⟨hu1, hu2⟩ := hu; go_simp; first | done | with_reducible rfl
              try simp only [Act.put, nA, nB, nC, nD, nE, nF]
              refine held_take 5 ?_ rfl (by kernel_rfl) (by kernel_rfl) (by kernel_rfl) (fun _ _ _ h => h) (Or.inl ⟨by kernel_rfl, ?_⟩) SD1.out ?_
              rotate_left 1
              · intro u hu; obtain ⟨hu1, hu2⟩ := hu; go_simp; first | done | with_reducible rfl
              try simp only [Act.put, nA, nB, nC, nD, nE, nF]
              cases hrf1 : readF .made ⟨r.kind, sl, a, pc, [], 0, r.tag, 0, []⟩ t with
              | none =>
                simp only [hrf1] at HRD
                obtain rfl : X = none := by rw [← HX.out]; unfold readR; rw [show readH r (([x, y, z, t] : List Bs)[0]?.getD []) (([x, y, z, t] : List Bs)[1]?.getD []) = _ from HRH.out, HF.out]; exact hrf1
                refine held_one 6 (by kernel_rfl) rfl (by kernel_rfl) (fun K hK => ?_)
                go_simp
                refine HRD.out.mono ?_
                rintro e w8 ⟨he, t8⟩
                obtain rfl : e = badE := he
                exact ⟨rfl, rfl, VD1.out.off t8 (by have := HRB.out; omega)⟩
              | some E8e =>
                simp only [hrf1] at HRD
                have HRF1 := Lib.hid hrf1
                clear hrf1
                refine held_one 6 (by kernel_rfl) rfl (by kernel_rfl) (fun K hK => ?_)
                go_simp
                refine HRD.out.mono ?_
                rintro e w8 ⟨he, t8⟩
                obtain ⟨rfl, hE8⟩ := he
                have E8 := Lib.hid hE8
                have T8 := Lib.hid (VD1.out.off t8 (by have := HRB.out; omega))
                have S1z : Hid (w8.cell? ⟨n1, 1, none⟩ = some (.func (.func 95) #[] #[]) ∧ w8.cell? ⟨lb, 3, none⟩ = some (.string (BT t))) := Lib.hid ⟨cell_at1 t8 SD1.out.1 N1.out, cell_at1 t8 SD1.out.2 (by show lb ≠ RB + 1; have h1 := HLB.out; have h2 := HRB.out; omega)⟩
                clear t8 hE8
                refine hK _ _ S1z.out ?_
                clear hK K
                try simp only [Act.put, nA, nB, nC, nD, nE, nF]
                refine wpAnyH_done (by kernel_rfl) ?_ _
                obtain ⟨y0, y1, y2, y3, y4, y5, y6, y7, y8⟩ := evCells E8.out
                obtain ⟨z0, z1, z2, z3, z4, z5, z6, z7, z8⟩ := evFree E8.out
                go_wp2_with fail
                rw [rounds_succ]
                go_wp2_with fail
                obtain rfl : X = some E8e := by rw [← HX.out]; unfold readR; rw [show readH r (([x, y, z, t] : List Bs)[0]?.getD []) (([x, y, z, t] : List Bs)[1]?.getD []) = _ from HRH.out, HF.out]; exact HRF1.out
                refine bodyPost_ret (v := .agg (evC E8e)) (results_cell_row rfl _ _ (RB + 1) 34 _ (0, 0) _ rfl (set9_at E8.out E8e) Tryz.underlying34 rfl (by kernel_rfl)) rfl ?_
                exact ⟨rfl, T8.out.off (set9_turn E8e) (by have := HRB.out; omega)⟩
            · obtain rfl : X = none := by rw [← HX.out]; unfold readR; rw [show readH r (([x, y, z, t] : List Bs)[0]?.getD []) (([x, y, z, t] : List Bs)[1]?.getD []) = none from readH_none5 HCA.out HA.out HSL.out HPC.out (fun h => h1 h.2)]
              go_wp2_with fail
              refine (need_no _).mono ?_
              rintro e w6 ⟨rfl, rfl⟩
              exact ⟨rfl, rfl, T6.out⟩
          · obtain rfl : X = none := by rw [← HX.out]; unfold readR; rw [show readH r (([x, y, z, t] : List Bs)[0]?.getD []) (([x, y, z, t] : List Bs)[1]?.getD []) = none from readH_none5 HCA.out HA.out HSL.out HPC.out (fun h => h0 h.1)]
            go_wp2_with fail
            refine (need_no _).mono ?_
            rintro e w6 ⟨rfl, rfl⟩
            exact ⟨rfl, rfl, T6.out⟩
set_option maxRecDepth 100000 in
set_option maxHeartbeats 40000000 in
theorem row_read_one_child {r : RowD} (hf : r.flds = [.child]) {x y z t : Bs} {v : Value} {w : World} {lb cap : Nat} (hL : WAt w lb [x, y, z, t]) (hx : x.length ≤ 4000000) (hy : y.length ≤ 4000000) (ht : t.length ≤ 4000000) (hcap : 4 ≤ cap) (hv : FSl w v r.flds) (hw : Laid w) :
    Calls Tryz.prog 46 #[.agg (rowA r v), .slice (some ⟨lb, 0, none⟩) 4 cap] w (ReadX w (readR r [x, y, z, t])) := by
  obtain ⟨X, hX⟩ : ∃ X, readR r [x, y, z, t] = X := ⟨_, rfl⟩
  rw [hX]
  have HX := Lib.hid hX
  have HW := Lib.hid hw
  have HF := Lib.hid hf
  have HL := Lib.hid hL
  have l0 : w.cell? ⟨lb, 0, none⟩ = some (.string (BT x)) := hL 0 (by simp)
  have l1 : w.cell? ⟨lb, 1, none⟩ = some (.string (BT y)) := hL 1 (by simp)
  have HLB := Lib.hid (World.block_lt_of_cell? _ _ l0)
  have HS4 : Hid (3 < w.heap.size) := Lib.hid (by obtain ⟨a, b, h⟩ := hw.rng; exact World.block_lt_of_cell? _ _ h)
  have HCU := fun w (h : Laid w) => Lib.hid (cut_any hy h)
  have HWX := fun w (h : Laid w) => Lib.hid (whole_any hx h)
  rw [hf] at hv
  clear hX hw hf hL
  obtain ⟨b, _, _, hve, hb, rfl, rfl⟩ := hv
  have HVE := Lib.hid hve
  have HBF := Lib.hid hb
  clear hve hb
  obtain ⟨w0, hw0⟩ : ∃ w0, w.alloc (.cells (rowA r v) 70) = w0 := ⟨_, rfl⟩
  obtain ⟨bR, tR⟩ := alloc1 hw0
  obtain ⟨w1, hw1⟩ : ∃ w1, w0.alloc (.cells (evC zeroE) 34) = w1 := ⟨_, rfl⟩
  obtain ⟨bE, tE⟩ := alloc1 hw1
  have hs0 : w0.heap.size = w.heap.size + 1 := by rw [← hw0, World.size_alloc]
  rw [hs0] at bE
  obtain ⟨RB, hRB⟩ : ∃ RB, w.heap.size = RB := ⟨_, rfl⟩
  have HRB := Lib.hid hRB
  have R1 : Hid (RowBox w1 RB r v) := Lib.hid (by rw [← hRB]; exact (tE.block _ (heap_lt bR) (fun h => h)).trans bR)
  have E1 : Hid (EvAt w1 (RB + 1) zeroE) := Lib.hid (by rw [← hRB]; exact bE)
  have T1 := Lib.hid (tR.trans tE)
  have m0 := cell_turn T1.out l0
  have m1 := cell_turn T1.out l1
  have M0 := Lib.hid m0
  have hw0' : w.alloc (.cells #[.int .i64 r.kind, .int .i64 r.tag, .string (BT r.word), .string (BT r.msg), v] 70) = w0 := hw0
  have hw1' : w0.alloc (.cells #[.int .i64 0, .int .i64 0, .string ⟨#[]⟩, .int .i64 0, .string ⟨#[]⟩, .int .i64 0, .int .i64 0, .int .i64 0, .string ⟨#[]⟩] 34) = w1 := hw1
  clear bR tR bE tE hw0 hw1 l0 l1 m0
  unfold rowA
  go_enter Tryz.func46, Tryz.ntmps46
  go_wp2_with fail
  refine (HCU _ (HW.out.turn T1.out)).out.mono ?_
  rintro e w2 ⟨rfl, t2⟩
  have T2 := Lib.hid (T1.out.trans t2)
  have R2 := Lib.hid (R1.out.turn t2)
  have E2 := Lib.hid (E1.out.turn t2)
  have M2 := Lib.hid (cell_turn t2 M0.out)
  clear t2 m1
  unfold cutA
  cases hcu : cutC 64 y with
  | none =>
    obtain rfl : X = none := by rw [← HX.out]; unfold readR; rw [show readH r (([x, y, z, t] : List Bs)[0]?.getD []) (([x, y, z, t] : List Bs)[1]?.getD []) = none from readH_none1 hcu]
    clear hcu
    go_wp2_with fail
    refine (need_no _).mono ?_
    rintro e wn ⟨rfl, rfl⟩
    exact ⟨rfl, rfl, T2.out⟩
  | some p =>
    obtain ⟨a, p⟩ := p
    have hya := (cutC_some hcu).1
    have hal : a.length ≤ 4000000 := by rw [hya] at hy; simp at hy; omega
    have hpl : p.length ≤ 4000000 := by rw [hya] at hy; simp at hy; omega
    have HCA := Lib.hid hcu
    have HAC := fun w (h : Laid w) => Lib.hid (actor_any hal h)
    have HWP := fun w (h : Laid w) => Lib.hid (whole_any hpl h)
    clear hcu hya hal hpl
    simp only
    cases hac : actorL a with
    | false =>
      obtain rfl : X = none := by rw [← HX.out]; unfold readR; rw [show readH r (([x, y, z, t] : List Bs)[0]?.getD []) (([x, y, z, t] : List Bs)[1]?.getD []) = none from readH_none2 HCA.out hac]
      simp only [hac] at HAC
      clear hac
      go_wp2_with fail
      refine (HAC _ (HW.out.turn T2.out)).out.mono ?_
      rintro e w3 ⟨rfl, t3⟩
      have T3 := Lib.hid (T2.out.trans t3)
      clear t3
      go_wp2_with fail
      refine (need_no _).mono ?_
      rintro e wn ⟨rfl, rfl⟩
      exact ⟨rfl, rfl, T3.out⟩
    | true =>
      have HA := Lib.hid hac
      simp only [hac] at HAC
      clear hac
      go_wp2_with fail
      refine (HAC _ (HW.out.turn T2.out)).out.mono ?_
      rintro e w3 ⟨rfl, t3⟩
      have T3 := Lib.hid (T2.out.trans t3)
      have R3 := Lib.hid (R2.out.turn t3)
      have E3 := Lib.hid (E2.out.turn t3)
      have M3 := Lib.hid (cell_turn t3 M2.out)
      clear t3
      go_wp2_with fail
      refine (need_yes _).mono ?_
      rintro e w3 ⟨rfl, rfl⟩
      go_upto_region 3 with (fail)
      refine held_begin (fun u => RowBox u RB r v ∧ u.cell? ⟨lb, 0, none⟩ = some (.string (BT x))) (by kernel_rfl) ?_
      generalize hwd : World.drew w3 = wd
      have VD : Hid (Turn Nn w wd) := Lib.hid (by rw [← hwd]; exact T3.out.drew)
      have SD : Hid (RowBox wd RB r v ∧ wd.cell? ⟨lb, 0, none⟩ = some (.string (BT x))) := Lib.hid (by rw [← hwd]; exact ⟨R3.out, M3.out⟩)
      have ED : Hid (EvAt wd (RB + 1) zeroE) := Lib.hid (by rw [← hwd]; exact E3.out)
      clear hwd
      refine held_take 0 ?_ rfl (by kernel_rfl) (by kernel_rfl) (by kernel_rfl) (fun _ _ _ h => h) (Or.inl ⟨by kernel_rfl, ?_⟩) SD.out ?_
      rotate_left 1
      · intro u hu; obtain ⟨hu1, hu2⟩ := hu; obtain ⟨x0, x1, x2, x3, x4⟩ := rowCells hu1; go_simp; first | done | with_reducible rfl
      try simp only [Act.put, nA, nB, nC, nD, nE, nF]
      refine held_take 1 ?_ rfl (by kernel_rfl) (by kernel_rfl) (by kernel_rfl) (fun _ _ _ h => h) (Or.inl ⟨by kernel_rfl, ?_⟩) SD.out ?_
      rotate_left 1
      · intro u hu; obtain ⟨hu1, hu2⟩ := hu; obtain ⟨x0, x1, x2, x3, x4⟩ := rowCells hu1; go_simp; first | done | with_reducible rfl
      try simp only [Act.put, nA, nB, nC, nD, nE, nF]
      refine held_take 2 ?_ rfl (by kernel_rfl) (by kernel_rfl) (by kernel_rfl) (fun _ _ _ h => h) (Or.inl ⟨by kernel_rfl, ?_⟩) SD.out ?_
      rotate_left 1
      · intro u hu; obtain ⟨hu1, hu2⟩ := hu; obtain ⟨x0, x1, x2, x3, x4⟩ := rowCells hu1; go_simp; first | done | with_reducible rfl
      try simp only [Act.put, nA, nB, nC, nD, nE, nF]
      refine held_take 3 ?_ rfl (by kernel_rfl) (by kernel_rfl) (by kernel_rfl) (fun _ _ _ h => h) (Or.inl ⟨by kernel_rfl, ?_⟩) SD.out ?_
      rotate_left 1
      · intro u hu; obtain ⟨hu1, hu2⟩ := hu; obtain ⟨x0, x1, x2, x3, x4⟩ := rowCells hu1; go_simp; first | done | with_reducible rfl
      try simp only [Act.put, nA, nB, nC, nD, nE, nF]
      refine held_take 4 ?_ rfl (by kernel_rfl) (by kernel_rfl) (by kernel_rfl) (fun _ _ _ h => h) (Or.inl ⟨by kernel_rfl, ?_⟩) SD.out ?_
      rotate_left 1
      · intro u hu; obtain ⟨hu1, hu2⟩ := hu; obtain ⟨x0, x1, x2, x3, x4⟩ := rowCells hu1; go_simp; first | done | with_reducible rfl
      try simp only [Act.put, nA, nB, nC, nD, nE, nF]
      refine held_take 6 ?_ rfl (by kernel_rfl) (by kernel_rfl) (by kernel_rfl) (fun _ _ _ h => h) (Or.inl ⟨by kernel_rfl, ?_⟩) SD.out ?_
      rotate_left 1
      · intro u hu; obtain ⟨hu1, hu2⟩ := hu; obtain ⟨x0, x1, x2, x3, x4⟩ := rowCells hu1; go_simp; first | done | with_reducible rfl
      try simp only [Act.put, nA, nB, nC, nD, nE, nF]
      refine held_take 7 ?_ rfl (by kernel_rfl) (by kernel_rfl) (by kernel_rfl) (fun _ _ _ h => h) (Or.inl ⟨by kernel_rfl, ?_⟩) SD.out ?_
      rotate_left 1
      · intro u hu; obtain ⟨hu1, hu2⟩ := hu; obtain ⟨x0, x1, x2, x3, x4⟩ := rowCells hu1; go_simp; first | done | with_reducible rfl
      try simp only [Act.put, nA, nB, nC, nD, nE, nF]
      refine held_take 9 ?_ rfl (by kernel_rfl) (by kernel_rfl) (by kernel_rfl) (fun _ _ _ h => h) (Or.inl ⟨by kernel_rfl, ?_⟩) SD.out ?_
      rotate_left 1
      · intro u hu; obtain ⟨hu1, hu2⟩ := hu; obtain ⟨x0, x1, x2, x3, x4⟩ := rowCells hu1; go_simp; first | done | with_reducible rfl
      try simp only [Act.put, nA, nB, nC, nD, nE, nF]
      refine held_take 10 ?_ rfl (by kernel_rfl) (by kernel_rfl) (by kernel_rfl) (fun _ _ _ h => h) (Or.inl ⟨by kernel_rfl, ?_⟩) SD.out ?_
      rotate_left 1
      · intro u hu; obtain ⟨hu1, hu2⟩ := hu; obtain ⟨x0, x1, x2, x3, x4⟩ := rowCells hu1; go_simp; first | done | with_reducible rfl
      try simp only [Act.put, nA, nB, nC, nD, nE, nF]
      cases hwx : wholeL x with
      | none =>
        obtain rfl : X = none := by rw [← HX.out]; unfold readR; rw [show readH r (([x, y, z, t] : List Bs)[0]?.getD []) (([x, y, z, t] : List Bs)[1]?.getD []) = none from readH_none3 HCA.out HA.out hwx]
        simp only [hwx] at HWX
        clear hwx
        refine held_one 5 (by kernel_rfl) rfl (by kernel_rfl) (fun K hK => ?_)
        go_simp
        refine (HWX _ (HW.out.turn VD.out)).out.mono ?_
        rintro e w4 ⟨he, t4⟩
        obtain rfl : e = badE := he
        exact ⟨rfl, rfl, VD.out.trans t4⟩
      | some sl =>
        have HSL := Lib.hid hwx
        simp only [hwx] at HWX
        clear hwx
        refine held_one 5 (by kernel_rfl) rfl (by kernel_rfl) (fun K hK => ?_)
        go_simp
        refine (HWX _ (HW.out.turn VD.out)).out.mono ?_
        rintro e w4 ⟨he, t4⟩
        obtain rfl : e = .returned (.int .i64 sl) := he
        have T4 := Lib.hid (VD.out.trans t4)
        have S4 : Hid (RowBox w4 RB r v ∧ w4.cell? ⟨lb, 0, none⟩ = some (.string (BT x))) := Lib.hid ⟨SD.out.1.turn t4, cell_turn t4 SD.out.2⟩
        have E4 := Lib.hid (ED.out.turn t4)
        clear t4
        refine hK _ _ S4.out ?_
        clear hK K
        try simp only [Act.put, nA, nB, nC, nD, nE, nF]
        cases hwp : wholeL p with
        | none =>
          obtain rfl : X = none := by rw [← HX.out]; unfold readR; rw [show readH r (([x, y, z, t] : List Bs)[0]?.getD []) (([x, y, z, t] : List Bs)[1]?.getD []) = none from readH_none4 HCA.out HA.out hwp]
          simp only [hwp] at HWP
          clear hwp
          refine held_one 8 (by kernel_rfl) rfl (by kernel_rfl) (fun K hK => ?_)
          go_simp
          refine (HWP _ (HW.out.turn T4.out)).out.mono ?_
          rintro e w5 ⟨he, t5⟩
          obtain rfl : e = badE := he
          exact ⟨rfl, rfl, T4.out.trans t5⟩
        | some pc =>
          have HPC := Lib.hid hwp
          simp only [hwp] at HWP
          clear hwp
          refine held_one 8 (by kernel_rfl) rfl (by kernel_rfl) (fun K hK => ?_)
          go_simp
          refine (HWP _ (HW.out.turn T4.out)).out.mono ?_
          rintro e w5 ⟨he, t5⟩
          obtain rfl : e = .returned (.int .i64 pc) := he
          have T5 := Lib.hid (T4.out.trans t5)
          have S5 : Hid (RowBox w5 RB r v ∧ w5.cell? ⟨lb, 0, none⟩ = some (.string (BT x))) := Lib.hid ⟨S4.out.1.turn t5, cell_turn t5 S4.out.2⟩
          have E5 := Lib.hid (E4.out.turn t5)
          clear t5
          refine hK _ _ S5.out ?_
          clear hK K
          try simp only [Act.put, nA, nB, nC, nD, nE, nF]
          refine held_take 11 ?_ rfl (by kernel_rfl) (by kernel_rfl) (by kernel_rfl) (fun _ _ _ h => h) (Or.inl ⟨by kernel_rfl, ?_⟩) S5.out ?_
          rotate_left 1
          · intro u hu; obtain ⟨hu1, hu2⟩ := hu; obtain ⟨x0, x1, x2, x3, x4⟩ := rowCells hu1; go_simp; first | done | with_reducible rfl
          try simp only [Act.put, nA, nB, nC, nD, nE, nF]
          obtain ⟨y0, y1, y2, y3, y4, y5, y6, y7, y8⟩ := evCells E5.out
          obtain ⟨z0, z1, z2, z3, z4, z5, z6, z7, z8⟩ := evFree E5.out
          refine held_one 12 (by kernel_rfl) rfl (by kernel_rfl) (fun K hK => ?_)
          go_simp
          generalize hws : World.setCell _ _ _ = w6
          have E6 : Hid (EvAt w6 (RB + 1) ⟨r.kind, sl, a, pc, [], 0, r.tag, 0, []⟩) := Lib.hid (by rw [← hws]; exact set9_at E5.out ⟨r.kind, sl, a, pc, [], 0, r.tag, 0, []⟩)
          have K6 : Turn (At1 (RB + 1)) w5 w6 := by rw [← hws]; exact set9_turn (B := RB + 1) ⟨r.kind, sl, a, pc, [], 0, r.tag, 0, []⟩
          have T6 := Lib.hid (T5.out.off K6 (by have := HRB.out; omega))
          have S6 : Hid (RowBox w6 RB r v ∧ w6.cell? ⟨lb, 0, none⟩ = some (.string (BT x))) := Lib.hid ⟨(K6.block RB (heap_lt S5.out.1) (fun e => by have h : RB = RB + 1 := e; omega)).trans S5.out.1, cell_at1 K6 S5.out.2 (by show lb ≠ RB + 1; have h1 := HLB.out; have h2 := HRB.out; omega)⟩
          clear hws K6 y0 y1 y2 y3 y4 y5 y6 y7 y8 z0 z1 z2 z3 z4 z5 z6 z7 z8
          refine hK _ _ S6.out ?_
          clear hK K
          try simp only [Act.put, nA, nB, nC, nD, nE, nF]
          refine wpAnyH_done (by kernel_rfl) ?_ _
          have q1 : w6.cell? ⟨RB + 1, 1, none⟩ = some (.int .i64 sl) := (evCells E6.out).2.1
          have q3 : w6.cell? ⟨RB + 1, 3, none⟩ = some (.int .i64 pc) := (evCells E6.out).2.2.2.1
          have x4 := (rowCells S6.out.1).2.2.2.2
          rw [HVE.out] at x4
          by_cases h0 : 0 ≤ sl
          · by_cases h1 : 0 ≤ pc
            · have HRH := Lib.hid (readH_yes (r := r) HCA.out HA.out HSL.out HPC.out ⟨h0, h1⟩)
              go_wp2_with fail
              refine (need_yes _).mono ?_
              rintro e w6 ⟨rfl, rfl⟩
              clear q1 q3 h0 h1
              go_wp2_with fail
              have f1a : w6.cell? ⟨b, 0, none⟩ = some (.func (.func 96) #[] #[]) := cell_blk ((T6.out.block b (heap_lt HBF.out) (fun h => h)).trans HBF.out)
              have f1b : w6.cell? ⟨b, 1, none⟩ = some (.func (.func 97) #[] #[]) := cell_blk ((T6.out.block b (heap_lt HBF.out) (fun h => h)).trans HBF.out)
              obtain ⟨j1, j2, j3, e1, e2, e3, kb, tb⟩ := box95 w6 (t := .func (.func 96) #[] #[]) (r := .func (.func 97) #[] #[]) rfl rfl
              have g1 : j3.cell? ⟨w6.heap.size, 1, none⟩ = some (.func (.func 97) #[] #[]) := cell_blk kb
              have G1 := Lib.hid g1
              have U1 := Lib.hid (T6.out.trans tb)
              have Q1 := Lib.hid (E6.out.turn tb)
              have N1 : Hid (w6.heap.size ≠ RB + 1) := Lib.hid (by have := heap_lt E6.out; omega)
              have O1 : Hid (j3.cell? ⟨lb, 3, none⟩ = some (.string (BT t))) := Lib.hid (cell_turn U1.out (HL.out 3 (by simp)))
              clear kb tb g1
              refine wp_loop_rounds 2 ?_
              rw [rounds_succ]
              go_upto_region 11 with (fail)
              clear f1a f1b e1 e2 e3
              obtain ⟨n1, hn1⟩ : ∃ n, w6.heap.size = n := ⟨_, rfl⟩
              rw [hn1] at G1 N1 ⊢
              clear hn1
              refine held_begin (fun uu => uu.cell? ⟨n1, 1, none⟩ = some (.func (.func 97) #[] #[]) ∧ uu.cell? ⟨lb, 3, none⟩ = some (.string (BT t))) (by kernel_rfl) ?_
              generalize hwd : World.drew j3 = wd
              have VD1 : Hid (Turn Nn w wd) := Lib.hid (by rw [← hwd]; exact U1.out.drew)
              have SD1 : Hid (wd.cell? ⟨n1, 1, none⟩ = some (.func (.func 97) #[] #[]) ∧ wd.cell? ⟨lb, 3, none⟩ = some (.string (BT t))) := Lib.hid (by rw [← hwd]; exact ⟨G1.out, O1.out⟩)
              have ED1 : Hid (EvAt wd (RB + 1) ⟨r.kind, sl, a, pc, [], 0, r.tag, 0, []⟩) := Lib.hid (by rw [← hwd]; exact Q1.out)
              clear hwd
              have HRD := Lib.hid (read_child (s := t) ht ED1.out (by have h1 := HS4.out; have h2 := HRB.out; omega) (HW.out.turn VD1.out))
              refine held_take 0 ?_ rfl (by kernel_rfl) (by kernel_rfl) (by kernel_rfl) (fun _ _ _ h => h) (Or.inl ⟨by kernel_rfl, ?_⟩) SD1.out ?_
              rotate_left 1
              · intro u hu; obtain ⟨hu1, hu2⟩ := hu; go_simp; first | done | with_reducible rfl
              try simp only [Act.put, nA, nB, nC, nD, nE, nF]
              refine held_take 1 ?_ rfl (by kernel_rfl) (by kernel_rfl) (by kernel_rfl) (fun _ _ _ h => h) (Or.inl ⟨by kernel_rfl, ?_⟩) SD1.out ?_
              rotate_left 1
              · intro u hu; obtain ⟨hu1, hu2⟩ := hu; go_simp; first | done | with_reducible rfl
              try simp only [Act.put, nA, nB, nC, nD, nE, nF]
              refine held_take 2 ?_ rfl (by kernel_rfl) (by kernel_rfl) (by kernel_rfl) (fun _ _ _ h => h) (Or.inl ⟨by kernel_rfl, ?_⟩) SD1.out ?_
              rotate_left 1
              · intro u hu; obtain ⟨hu1, hu2⟩ := hu; go_simp; first | done | with_reducible rfl
              try simp only [Act.put, nA, nB, nC, nD, nE, nF]
              refine held_take 3 ?_ rfl (by kernel_rfl) (by kernel_rfl) (by kernel_rfl) (fun _ _ _ h => h) (Or.inl ⟨by kernel_rfl, ?_⟩) SD1.out ?_
              rotate_left 1
              · intro u hu; obtain ⟨hu1, hu2⟩ := hu; go_simp; first | done | with_reducible rfl
              try simp only [Act.put, nA, nB, nC, nD, nE, nF]
              refine held_take 4 ?_ rfl (by kernel_rfl) (by kernel_rfl) (by kernel_rfl) (fun _ _ _ h => h) (Or.inl ⟨by kernel_rfl, ?_⟩) SD1.out ?_
              rotate_left 1
              · intro u hu; obtain ⟨hu1, hu2⟩ := hu; go_simp; first | done | with_reducible rfl
              try simp only [Act.put, nA, nB, nC, nD, nE, nF]
              refine held_take 5 ?_ rfl (by kernel_rfl) (by kernel_rfl) (by kernel_rfl) (fun _ _ _ h => h) (Or.inl ⟨by kernel_rfl, ?_⟩) SD1.out ?_
              rotate_left 1
              · intro u hu; obtain ⟨hu1, hu2⟩ := hu; go_simp; first | done | with_reducible rfl
              try simp only [Act.put, nA, nB, nC, nD, nE, nF]
              cases hrf1 : readF .child ⟨r.kind, sl, a, pc, [], 0, r.tag, 0, []⟩ t with
              | none =>
                simp only [hrf1] at HRD
                obtain rfl : X = none := by rw [← HX.out]; unfold readR; rw [show readH r (([x, y, z, t] : List Bs)[0]?.getD []) (([x, y, z, t] : List Bs)[1]?.getD []) = _ from HRH.out, HF.out]; exact hrf1
                refine held_one 6 (by kernel_rfl) rfl (by kernel_rfl) (fun K hK => ?_)
                go_simp
                refine HRD.out.mono ?_
                rintro e w8 ⟨he, t8⟩
                obtain rfl : e = badE := he
                exact ⟨rfl, rfl, VD1.out.off t8 (by have := HRB.out; omega)⟩
              | some E8e =>
                simp only [hrf1] at HRD
                have HRF1 := Lib.hid hrf1
                clear hrf1
                refine held_one 6 (by kernel_rfl) rfl (by kernel_rfl) (fun K hK => ?_)
                go_simp
                refine HRD.out.mono ?_
                rintro e w8 ⟨he, t8⟩
                obtain ⟨rfl, hE8⟩ := he
                have E8 := Lib.hid hE8
                have T8 := Lib.hid (VD1.out.off t8 (by have := HRB.out; omega))
                have S1z : Hid (w8.cell? ⟨n1, 1, none⟩ = some (.func (.func 97) #[] #[]) ∧ w8.cell? ⟨lb, 3, none⟩ = some (.string (BT t))) := Lib.hid ⟨cell_at1 t8 SD1.out.1 N1.out, cell_at1 t8 SD1.out.2 (by show lb ≠ RB + 1; have h1 := HLB.out; have h2 := HRB.out; omega)⟩
                clear t8 hE8
                refine hK _ _ S1z.out ?_
                clear hK K
                try simp only [Act.put, nA, nB, nC, nD, nE, nF]
                refine wpAnyH_done (by kernel_rfl) ?_ _
                obtain ⟨y0, y1, y2, y3, y4, y5, y6, y7, y8⟩ := evCells E8.out
                obtain ⟨z0, z1, z2, z3, z4, z5, z6, z7, z8⟩ := evFree E8.out
                go_wp2_with fail
                rw [rounds_succ]
                go_wp2_with fail
                obtain rfl : X = some E8e := by rw [← HX.out]; unfold readR; rw [show readH r (([x, y, z, t] : List Bs)[0]?.getD []) (([x, y, z, t] : List Bs)[1]?.getD []) = _ from HRH.out, HF.out]; exact HRF1.out
                refine bodyPost_ret (v := .agg (evC E8e)) (results_cell_row rfl _ _ (RB + 1) 34 _ (0, 0) _ rfl (set9_at E8.out E8e) Tryz.underlying34 rfl (by kernel_rfl)) rfl ?_
                exact ⟨rfl, T8.out.off (set9_turn E8e) (by have := HRB.out; omega)⟩
            · obtain rfl : X = none := by rw [← HX.out]; unfold readR; rw [show readH r (([x, y, z, t] : List Bs)[0]?.getD []) (([x, y, z, t] : List Bs)[1]?.getD []) = none from readH_none5 HCA.out HA.out HSL.out HPC.out (fun h => h1 h.2)]
              go_wp2_with fail
              refine (need_no _).mono ?_
              rintro e w6 ⟨rfl, rfl⟩
              exact ⟨rfl, rfl, T6.out⟩
          · obtain rfl : X = none := by rw [← HX.out]; unfold readR; rw [show readH r (([x, y, z, t] : List Bs)[0]?.getD []) (([x, y, z, t] : List Bs)[1]?.getD []) = none from readH_none5 HCA.out HA.out HSL.out HPC.out (fun h => h0 h.1)]
            go_wp2_with fail
            refine (need_no _).mono ?_
            rintro e w6 ⟨rfl, rfl⟩
            exact ⟨rfl, rfl, T6.out⟩
set_option maxRecDepth 100000 in
set_option maxHeartbeats 40000000 in
theorem row_read_one_place {r : RowD} (hf : r.flds = [.place]) {x y z t : Bs} {v : Value} {w : World} {lb cap : Nat} (hL : WAt w lb [x, y, z, t]) (hx : x.length ≤ 4000000) (hy : y.length ≤ 4000000) (ht : t.length ≤ 4000000) (hcap : 4 ≤ cap) (hv : FSl w v r.flds) (hw : Laid w) :
    Calls Tryz.prog 46 #[.agg (rowA r v), .slice (some ⟨lb, 0, none⟩) 4 cap] w (ReadX w (readR r [x, y, z, t])) := by
  obtain ⟨X, hX⟩ : ∃ X, readR r [x, y, z, t] = X := ⟨_, rfl⟩
  rw [hX]
  have HX := Lib.hid hX
  have HW := Lib.hid hw
  have HF := Lib.hid hf
  have HL := Lib.hid hL
  have l0 : w.cell? ⟨lb, 0, none⟩ = some (.string (BT x)) := hL 0 (by simp)
  have l1 : w.cell? ⟨lb, 1, none⟩ = some (.string (BT y)) := hL 1 (by simp)
  have HLB := Lib.hid (World.block_lt_of_cell? _ _ l0)
  have HS4 : Hid (3 < w.heap.size) := Lib.hid (by obtain ⟨a, b, h⟩ := hw.rng; exact World.block_lt_of_cell? _ _ h)
  have HCU := fun w (h : Laid w) => Lib.hid (cut_any hy h)
  have HWX := fun w (h : Laid w) => Lib.hid (whole_any hx h)
  rw [hf] at hv
  clear hX hw hf hL
  obtain ⟨b, _, _, hve, hb, rfl, rfl⟩ := hv
  have HVE := Lib.hid hve
  have HBF := Lib.hid hb
  clear hve hb
  obtain ⟨w0, hw0⟩ : ∃ w0, w.alloc (.cells (rowA r v) 70) = w0 := ⟨_, rfl⟩
  obtain ⟨bR, tR⟩ := alloc1 hw0
  obtain ⟨w1, hw1⟩ : ∃ w1, w0.alloc (.cells (evC zeroE) 34) = w1 := ⟨_, rfl⟩
  obtain ⟨bE, tE⟩ := alloc1 hw1
  have hs0 : w0.heap.size = w.heap.size + 1 := by rw [← hw0, World.size_alloc]
  rw [hs0] at bE
  obtain ⟨RB, hRB⟩ : ∃ RB, w.heap.size = RB := ⟨_, rfl⟩
  have HRB := Lib.hid hRB
  have R1 : Hid (RowBox w1 RB r v) := Lib.hid (by rw [← hRB]; exact (tE.block _ (heap_lt bR) (fun h => h)).trans bR)
  have E1 : Hid (EvAt w1 (RB + 1) zeroE) := Lib.hid (by rw [← hRB]; exact bE)
  have T1 := Lib.hid (tR.trans tE)
  have m0 := cell_turn T1.out l0
  have m1 := cell_turn T1.out l1
  have M0 := Lib.hid m0
  have hw0' : w.alloc (.cells #[.int .i64 r.kind, .int .i64 r.tag, .string (BT r.word), .string (BT r.msg), v] 70) = w0 := hw0
  have hw1' : w0.alloc (.cells #[.int .i64 0, .int .i64 0, .string ⟨#[]⟩, .int .i64 0, .string ⟨#[]⟩, .int .i64 0, .int .i64 0, .int .i64 0, .string ⟨#[]⟩] 34) = w1 := hw1
  clear bR tR bE tE hw0 hw1 l0 l1 m0
  unfold rowA
  go_enter Tryz.func46, Tryz.ntmps46
  go_wp2_with fail
  refine (HCU _ (HW.out.turn T1.out)).out.mono ?_
  rintro e w2 ⟨rfl, t2⟩
  have T2 := Lib.hid (T1.out.trans t2)
  have R2 := Lib.hid (R1.out.turn t2)
  have E2 := Lib.hid (E1.out.turn t2)
  have M2 := Lib.hid (cell_turn t2 M0.out)
  clear t2 m1
  unfold cutA
  cases hcu : cutC 64 y with
  | none =>
    obtain rfl : X = none := by rw [← HX.out]; unfold readR; rw [show readH r (([x, y, z, t] : List Bs)[0]?.getD []) (([x, y, z, t] : List Bs)[1]?.getD []) = none from readH_none1 hcu]
    clear hcu
    go_wp2_with fail
    refine (need_no _).mono ?_
    rintro e wn ⟨rfl, rfl⟩
    exact ⟨rfl, rfl, T2.out⟩
  | some p =>
    obtain ⟨a, p⟩ := p
    have hya := (cutC_some hcu).1
    have hal : a.length ≤ 4000000 := by rw [hya] at hy; simp at hy; omega
    have hpl : p.length ≤ 4000000 := by rw [hya] at hy; simp at hy; omega
    have HCA := Lib.hid hcu
    have HAC := fun w (h : Laid w) => Lib.hid (actor_any hal h)
    have HWP := fun w (h : Laid w) => Lib.hid (whole_any hpl h)
    clear hcu hya hal hpl
    simp only
    cases hac : actorL a with
    | false =>
      obtain rfl : X = none := by rw [← HX.out]; unfold readR; rw [show readH r (([x, y, z, t] : List Bs)[0]?.getD []) (([x, y, z, t] : List Bs)[1]?.getD []) = none from readH_none2 HCA.out hac]
      simp only [hac] at HAC
      clear hac
      go_wp2_with fail
      refine (HAC _ (HW.out.turn T2.out)).out.mono ?_
      rintro e w3 ⟨rfl, t3⟩
      have T3 := Lib.hid (T2.out.trans t3)
      clear t3
      go_wp2_with fail
      refine (need_no _).mono ?_
      rintro e wn ⟨rfl, rfl⟩
      exact ⟨rfl, rfl, T3.out⟩
    | true =>
      have HA := Lib.hid hac
      simp only [hac] at HAC
      clear hac
      go_wp2_with fail
      refine (HAC _ (HW.out.turn T2.out)).out.mono ?_
      rintro e w3 ⟨rfl, t3⟩
      have T3 := Lib.hid (T2.out.trans t3)
      have R3 := Lib.hid (R2.out.turn t3)
      have E3 := Lib.hid (E2.out.turn t3)
      have M3 := Lib.hid (cell_turn t3 M2.out)
      clear t3
      go_wp2_with fail
      refine (need_yes _).mono ?_
      rintro e w3 ⟨rfl, rfl⟩
      go_upto_region 3 with (fail)
      refine held_begin (fun u => RowBox u RB r v ∧ u.cell? ⟨lb, 0, none⟩ = some (.string (BT x))) (by kernel_rfl) ?_
      generalize hwd : World.drew w3 = wd
      have VD : Hid (Turn Nn w wd) := Lib.hid (by rw [← hwd]; exact T3.out.drew)
      have SD : Hid (RowBox wd RB r v ∧ wd.cell? ⟨lb, 0, none⟩ = some (.string (BT x))) := Lib.hid (by rw [← hwd]; exact ⟨R3.out, M3.out⟩)
      have ED : Hid (EvAt wd (RB + 1) zeroE) := Lib.hid (by rw [← hwd]; exact E3.out)
      clear hwd
      refine held_take 0 ?_ rfl (by kernel_rfl) (by kernel_rfl) (by kernel_rfl) (fun _ _ _ h => h) (Or.inl ⟨by kernel_rfl, ?_⟩) SD.out ?_
      rotate_left 1
      · intro u hu; obtain ⟨hu1, hu2⟩ := hu; obtain ⟨x0, x1, x2, x3, x4⟩ := rowCells hu1; go_simp; first | done | with_reducible rfl
      try simp only [Act.put, nA, nB, nC, nD, nE, nF]
      refine held_take 1 ?_ rfl (by kernel_rfl) (by kernel_rfl) (by kernel_rfl) (fun _ _ _ h => h) (Or.inl ⟨by kernel_rfl, ?_⟩) SD.out ?_
      rotate_left 1
      · intro u hu; obtain ⟨hu1, hu2⟩ := hu; obtain ⟨x0, x1, x2, x3, x4⟩ := rowCells hu1; go_simp; first | done | with_reducible rfl
      try simp only [Act.put, nA, nB, nC, nD, nE, nF]
      refine held_take 2 ?_ rfl (by kernel_rfl) (by kernel_rfl) (by kernel_rfl) (fun _ _ _ h => h) (Or.inl ⟨by kernel_rfl, ?_⟩) SD.out ?_
      rotate_left 1
      · intro u hu; obtain ⟨hu1, hu2⟩ := hu; obtain ⟨x0, x1, x2, x3, x4⟩ := rowCells hu1; go_simp; first | done | with_reducible rfl
      try simp only [Act.put, nA, nB, nC, nD, nE, nF]
      refine held_take 3 ?_ rfl (by kernel_rfl) (by kernel_rfl) (by kernel_rfl) (fun _ _ _ h => h) (Or.inl ⟨by kernel_rfl, ?_⟩) SD.out ?_
      rotate_left 1
      · intro u hu; obtain ⟨hu1, hu2⟩ := hu; obtain ⟨x0, x1, x2, x3, x4⟩ := rowCells hu1; go_simp; first | done | with_reducible rfl
      try simp only [Act.put, nA, nB, nC, nD, nE, nF]
      refine held_take 4 ?_ rfl (by kernel_rfl) (by kernel_rfl) (by kernel_rfl) (fun _ _ _ h => h) (Or.inl ⟨by kernel_rfl, ?_⟩) SD.out ?_
      rotate_left 1
      · intro u hu; obtain ⟨hu1, hu2⟩ := hu; obtain ⟨x0, x1, x2, x3, x4⟩ := rowCells hu1; go_simp; first | done | with_reducible rfl
      try simp only [Act.put, nA, nB, nC, nD, nE, nF]
      refine held_take 6 ?_ rfl (by kernel_rfl) (by kernel_rfl) (by kernel_rfl) (fun _ _ _ h => h) (Or.inl ⟨by kernel_rfl, ?_⟩) SD.out ?_
      rotate_left 1
      · intro u hu; obtain ⟨hu1, hu2⟩ := hu; obtain ⟨x0, x1, x2, x3, x4⟩ := rowCells hu1; go_simp; first | done | with_reducible rfl
      try simp only [Act.put, nA, nB, nC, nD, nE, nF]
      refine held_take 7 ?_ rfl (by kernel_rfl) (by kernel_rfl) (by kernel_rfl) (fun _ _ _ h => h) (Or.inl ⟨by kernel_rfl, ?_⟩) SD.out ?_
      rotate_left 1
      · intro u hu; obtain ⟨hu1, hu2⟩ := hu; obtain ⟨x0, x1, x2, x3, x4⟩ := rowCells hu1; go_simp; first | done | with_reducible rfl
      try simp only [Act.put, nA, nB, nC, nD, nE, nF]
      refine held_take 9 ?_ rfl (by kernel_rfl) (by kernel_rfl) (by kernel_rfl) (fun _ _ _ h => h) (Or.inl ⟨by kernel_rfl, ?_⟩) SD.out ?_
      rotate_left 1
      · intro u hu; obtain ⟨hu1, hu2⟩ := hu; obtain ⟨x0, x1, x2, x3, x4⟩ := rowCells hu1; go_simp; first | done | with_reducible rfl
      try simp only [Act.put, nA, nB, nC, nD, nE, nF]
      refine held_take 10 ?_ rfl (by kernel_rfl) (by kernel_rfl) (by kernel_rfl) (fun _ _ _ h => h) (Or.inl ⟨by kernel_rfl, ?_⟩) SD.out ?_
      rotate_left 1
      · intro u hu; obtain ⟨hu1, hu2⟩ := hu; obtain ⟨x0, x1, x2, x3, x4⟩ := rowCells hu1; go_simp; first | done | with_reducible rfl
      try simp only [Act.put, nA, nB, nC, nD, nE, nF]
      cases hwx : wholeL x with
      | none =>
        obtain rfl : X = none := by rw [← HX.out]; unfold readR; rw [show readH r (([x, y, z, t] : List Bs)[0]?.getD []) (([x, y, z, t] : List Bs)[1]?.getD []) = none from readH_none3 HCA.out HA.out hwx]
        simp only [hwx] at HWX
        clear hwx
        refine held_one 5 (by kernel_rfl) rfl (by kernel_rfl) (fun K hK => ?_)
        go_simp
        refine (HWX _ (HW.out.turn VD.out)).out.mono ?_
        rintro e w4 ⟨he, t4⟩
        obtain rfl : e = badE := he
        exact ⟨rfl, rfl, VD.out.trans t4⟩
      | some sl =>
        have HSL := Lib.hid hwx
        simp only [hwx] at HWX
        clear hwx
        refine held_one 5 (by kernel_rfl) rfl (by kernel_rfl) (fun K hK => ?_)
        go_simp
        refine (HWX _ (HW.out.turn VD.out)).out.mono ?_
        rintro e w4 ⟨he, t4⟩
        obtain rfl : e = .returned (.int .i64 sl) := he
        have T4 := Lib.hid (VD.out.trans t4)
        have S4 : Hid (RowBox w4 RB r v ∧ w4.cell? ⟨lb, 0, none⟩ = some (.string (BT x))) := Lib.hid ⟨SD.out.1.turn t4, cell_turn t4 SD.out.2⟩
        have E4 := Lib.hid (ED.out.turn t4)
        clear t4
        refine hK _ _ S4.out ?_
        clear hK K
        try simp only [Act.put, nA, nB, nC, nD, nE, nF]
        cases hwp : wholeL p with
        | none =>
          obtain rfl : X = none := by rw [← HX.out]; unfold readR; rw [show readH r (([x, y, z, t] : List Bs)[0]?.getD []) (([x, y, z, t] : List Bs)[1]?.getD []) = none from readH_none4 HCA.out HA.out hwp]
          simp only [hwp] at HWP
          clear hwp
          refine held_one 8 (by kernel_rfl) rfl (by kernel_rfl) (fun K hK => ?_)
          go_simp
          refine (HWP _ (HW.out.turn T4.out)).out.mono ?_
          rintro e w5 ⟨he, t5⟩
          obtain rfl : e = badE := he
          exact ⟨rfl, rfl, T4.out.trans t5⟩
        | some pc =>
          have HPC := Lib.hid hwp
          simp only [hwp] at HWP
          clear hwp
          refine held_one 8 (by kernel_rfl) rfl (by kernel_rfl) (fun K hK => ?_)
          go_simp
          refine (HWP _ (HW.out.turn T4.out)).out.mono ?_
          rintro e w5 ⟨he, t5⟩
          obtain rfl : e = .returned (.int .i64 pc) := he
          have T5 := Lib.hid (T4.out.trans t5)
          have S5 : Hid (RowBox w5 RB r v ∧ w5.cell? ⟨lb, 0, none⟩ = some (.string (BT x))) := Lib.hid ⟨S4.out.1.turn t5, cell_turn t5 S4.out.2⟩
          have E5 := Lib.hid (E4.out.turn t5)
          clear t5
          refine hK _ _ S5.out ?_
          clear hK K
          try simp only [Act.put, nA, nB, nC, nD, nE, nF]
          refine held_take 11 ?_ rfl (by kernel_rfl) (by kernel_rfl) (by kernel_rfl) (fun _ _ _ h => h) (Or.inl ⟨by kernel_rfl, ?_⟩) S5.out ?_
          rotate_left 1
          · intro u hu; obtain ⟨hu1, hu2⟩ := hu; obtain ⟨x0, x1, x2, x3, x4⟩ := rowCells hu1; go_simp; first | done | with_reducible rfl
          try simp only [Act.put, nA, nB, nC, nD, nE, nF]
          obtain ⟨y0, y1, y2, y3, y4, y5, y6, y7, y8⟩ := evCells E5.out
          obtain ⟨z0, z1, z2, z3, z4, z5, z6, z7, z8⟩ := evFree E5.out
          refine held_one 12 (by kernel_rfl) rfl (by kernel_rfl) (fun K hK => ?_)
          go_simp
          generalize hws : World.setCell _ _ _ = w6
          have E6 : Hid (EvAt w6 (RB + 1) ⟨r.kind, sl, a, pc, [], 0, r.tag, 0, []⟩) := Lib.hid (by rw [← hws]; exact set9_at E5.out ⟨r.kind, sl, a, pc, [], 0, r.tag, 0, []⟩)
          have K6 : Turn (At1 (RB + 1)) w5 w6 := by rw [← hws]; exact set9_turn (B := RB + 1) ⟨r.kind, sl, a, pc, [], 0, r.tag, 0, []⟩
          have T6 := Lib.hid (T5.out.off K6 (by have := HRB.out; omega))
          have S6 : Hid (RowBox w6 RB r v ∧ w6.cell? ⟨lb, 0, none⟩ = some (.string (BT x))) := Lib.hid ⟨(K6.block RB (heap_lt S5.out.1) (fun e => by have h : RB = RB + 1 := e; omega)).trans S5.out.1, cell_at1 K6 S5.out.2 (by show lb ≠ RB + 1; have h1 := HLB.out; have h2 := HRB.out; omega)⟩
          clear hws K6 y0 y1 y2 y3 y4 y5 y6 y7 y8 z0 z1 z2 z3 z4 z5 z6 z7 z8
          refine hK _ _ S6.out ?_
          clear hK K
          try simp only [Act.put, nA, nB, nC, nD, nE, nF]
          refine wpAnyH_done (by kernel_rfl) ?_ _
          have q1 : w6.cell? ⟨RB + 1, 1, none⟩ = some (.int .i64 sl) := (evCells E6.out).2.1
          have q3 : w6.cell? ⟨RB + 1, 3, none⟩ = some (.int .i64 pc) := (evCells E6.out).2.2.2.1
          have x4 := (rowCells S6.out.1).2.2.2.2
          rw [HVE.out] at x4
          by_cases h0 : 0 ≤ sl
          · by_cases h1 : 0 ≤ pc
            · have HRH := Lib.hid (readH_yes (r := r) HCA.out HA.out HSL.out HPC.out ⟨h0, h1⟩)
              go_wp2_with fail
              refine (need_yes _).mono ?_
              rintro e w6 ⟨rfl, rfl⟩
              clear q1 q3 h0 h1
              go_wp2_with fail
              have f1a : w6.cell? ⟨b, 0, none⟩ = some (.func (.func 98) #[] #[]) := cell_blk ((T6.out.block b (heap_lt HBF.out) (fun h => h)).trans HBF.out)
              have f1b : w6.cell? ⟨b, 1, none⟩ = some (.func (.func 99) #[] #[]) := cell_blk ((T6.out.block b (heap_lt HBF.out) (fun h => h)).trans HBF.out)
              obtain ⟨j1, j2, j3, e1, e2, e3, kb, tb⟩ := box95 w6 (t := .func (.func 98) #[] #[]) (r := .func (.func 99) #[] #[]) rfl rfl
              have g1 : j3.cell? ⟨w6.heap.size, 1, none⟩ = some (.func (.func 99) #[] #[]) := cell_blk kb
              have G1 := Lib.hid g1
              have U1 := Lib.hid (T6.out.trans tb)
              have Q1 := Lib.hid (E6.out.turn tb)
              have N1 : Hid (w6.heap.size ≠ RB + 1) := Lib.hid (by have := heap_lt E6.out; omega)
              have O1 : Hid (j3.cell? ⟨lb, 3, none⟩ = some (.string (BT t))) := Lib.hid (cell_turn U1.out (HL.out 3 (by simp)))
              clear kb tb g1
              refine wp_loop_rounds 2 ?_
              rw [rounds_succ]
              go_upto_region 11 with (fail)
              clear f1a f1b e1 e2 e3
              obtain ⟨n1, hn1⟩ : ∃ n, w6.heap.size = n := ⟨_, rfl⟩
              rw [hn1] at G1 N1 ⊢
              clear hn1
              refine held_begin (fun uu => uu.cell? ⟨n1, 1, none⟩ = some (.func (.func 99) #[] #[]) ∧ uu.cell? ⟨lb, 3, none⟩ = some (.string (BT t))) (by kernel_rfl) ?_
              generalize hwd : World.drew j3 = wd
              have VD1 : Hid (Turn Nn w wd) := Lib.hid (by rw [← hwd]; exact U1.out.drew)
              have SD1 : Hid (wd.cell? ⟨n1, 1, none⟩ = some (.func (.func 99) #[] #[]) ∧ wd.cell? ⟨lb, 3, none⟩ = some (.string (BT t))) := Lib.hid (by rw [← hwd]; exact ⟨G1.out, O1.out⟩)
              have ED1 : Hid (EvAt wd (RB + 1) ⟨r.kind, sl, a, pc, [], 0, r.tag, 0, []⟩) := Lib.hid (by rw [← hwd]; exact Q1.out)
              clear hwd
              have HRD := Lib.hid (read_place (s := t) ht ED1.out (HW.out.turn VD1.out))
              refine held_take 0 ?_ rfl (by kernel_rfl) (by kernel_rfl) (by kernel_rfl) (fun _ _ _ h => h) (Or.inl ⟨by kernel_rfl, ?_⟩) SD1.out ?_
              rotate_left 1
              · intro u hu; obtain ⟨hu1, hu2⟩ := hu; go_simp; first | done | with_reducible rfl
              try simp only [Act.put, nA, nB, nC, nD, nE, nF]
              refine held_take 1 ?_ rfl (by kernel_rfl) (by kernel_rfl) (by kernel_rfl) (fun _ _ _ h => h) (Or.inl ⟨by kernel_rfl, ?_⟩) SD1.out ?_
              rotate_left 1
              · intro u hu; obtain ⟨hu1, hu2⟩ := hu; go_simp; first | done | with_reducible rfl
              try simp only [Act.put, nA, nB, nC, nD, nE, nF]
              refine held_take 2 ?_ rfl (by kernel_rfl) (by kernel_rfl) (by kernel_rfl) (fun _ _ _ h => h) (Or.inl ⟨by kernel_rfl, ?_⟩) SD1.out ?_
              rotate_left 1
              · intro u hu; obtain ⟨hu1, hu2⟩ := hu; go_simp; first | done | with_reducible rfl
              try simp only [Act.put, nA, nB, nC, nD, nE, nF]
              refine held_take 3 ?_ rfl (by kernel_rfl) (by kernel_rfl) (by kernel_rfl) (fun _ _ _ h => h) (Or.inl ⟨by kernel_rfl, ?_⟩) SD1.out ?_
              rotate_left 1
              · intro u hu; obtain ⟨hu1, hu2⟩ := hu; go_simp; first | done | with_reducible rfl
              try simp only [Act.put, nA, nB, nC, nD, nE, nF]
              refine held_take 4 ?_ rfl (by kernel_rfl) (by kernel_rfl) (by kernel_rfl) (fun _ _ _ h => h) (Or.inl ⟨by kernel_rfl, ?_⟩) SD1.out ?_
              rotate_left 1
              · intro u hu; obtain ⟨hu1, hu2⟩ := hu; go_simp; first | done | with_reducible rfl
              try simp only [Act.put, nA, nB, nC, nD, nE, nF]
              refine held_take 5 ?_ rfl (by kernel_rfl) (by kernel_rfl) (by kernel_rfl) (fun _ _ _ h => h) (Or.inl ⟨by kernel_rfl, ?_⟩) SD1.out ?_
              rotate_left 1
              · intro u hu; obtain ⟨hu1, hu2⟩ := hu; go_simp; first | done | with_reducible rfl
              try simp only [Act.put, nA, nB, nC, nD, nE, nF]
              cases hrf1 : readF .place ⟨r.kind, sl, a, pc, [], 0, r.tag, 0, []⟩ t with
              | none =>
                simp only [hrf1] at HRD
                obtain rfl : X = none := by rw [← HX.out]; unfold readR; rw [show readH r (([x, y, z, t] : List Bs)[0]?.getD []) (([x, y, z, t] : List Bs)[1]?.getD []) = _ from HRH.out, HF.out]; exact hrf1
                refine held_one 6 (by kernel_rfl) rfl (by kernel_rfl) (fun K hK => ?_)
                go_simp
                refine HRD.out.mono ?_
                rintro e w8 ⟨he, t8⟩
                obtain rfl : e = badE := he
                exact ⟨rfl, rfl, VD1.out.off t8 (by have := HRB.out; omega)⟩
              | some E8e =>
                simp only [hrf1] at HRD
                have HRF1 := Lib.hid hrf1
                clear hrf1
                refine held_one 6 (by kernel_rfl) rfl (by kernel_rfl) (fun K hK => ?_)
                go_simp
                refine HRD.out.mono ?_
                rintro e w8 ⟨he, t8⟩
                obtain ⟨rfl, hE8⟩ := he
                have E8 := Lib.hid hE8
                have T8 := Lib.hid (VD1.out.off t8 (by have := HRB.out; omega))
                have S1z : Hid (w8.cell? ⟨n1, 1, none⟩ = some (.func (.func 99) #[] #[]) ∧ w8.cell? ⟨lb, 3, none⟩ = some (.string (BT t))) := Lib.hid ⟨cell_at1 t8 SD1.out.1 N1.out, cell_at1 t8 SD1.out.2 (by show lb ≠ RB + 1; have h1 := HLB.out; have h2 := HRB.out; omega)⟩
                clear t8 hE8
                refine hK _ _ S1z.out ?_
                clear hK K
                try simp only [Act.put, nA, nB, nC, nD, nE, nF]
                refine wpAnyH_done (by kernel_rfl) ?_ _
                obtain ⟨y0, y1, y2, y3, y4, y5, y6, y7, y8⟩ := evCells E8.out
                obtain ⟨z0, z1, z2, z3, z4, z5, z6, z7, z8⟩ := evFree E8.out
                go_wp2_with fail
                rw [rounds_succ]
                go_wp2_with fail
                obtain rfl : X = some E8e := by rw [← HX.out]; unfold readR; rw [show readH r (([x, y, z, t] : List Bs)[0]?.getD []) (([x, y, z, t] : List Bs)[1]?.getD []) = _ from HRH.out, HF.out]; exact HRF1.out
                refine bodyPost_ret (v := .agg (evC E8e)) (results_cell_row rfl _ _ (RB + 1) 34 _ (0, 0) _ rfl (set9_at E8.out E8e) Tryz.underlying34 rfl (by kernel_rfl)) rfl ?_
                exact ⟨rfl, T8.out.off (set9_turn E8e) (by have := HRB.out; omega)⟩
            · obtain rfl : X = none := by rw [← HX.out]; unfold readR; rw [show readH r (([x, y, z, t] : List Bs)[0]?.getD []) (([x, y, z, t] : List Bs)[1]?.getD []) = none from readH_none5 HCA.out HA.out HSL.out HPC.out (fun h => h1 h.2)]
              go_wp2_with fail
              refine (need_no _).mono ?_
              rintro e w6 ⟨rfl, rfl⟩
              exact ⟨rfl, rfl, T6.out⟩
          · obtain rfl : X = none := by rw [← HX.out]; unfold readR; rw [show readH r (([x, y, z, t] : List Bs)[0]?.getD []) (([x, y, z, t] : List Bs)[1]?.getD []) = none from readH_none5 HCA.out HA.out HSL.out HPC.out (fun h => h0 h.1)]
            go_wp2_with fail
            refine (need_no _).mono ?_
            rintro e w6 ⟨rfl, rfl⟩
            exact ⟨rfl, rfl, T6.out⟩
end
end Go.Proofs.YtpbjblbeepbklaaGreatDoor
