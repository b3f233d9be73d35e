/- Own bytes; the document's line of a turn. Printed by gen_ue.py. A slice of own bytes: what is appended, and its text. What the document's Print writes, line by line; its arms that refuse. The document's Print. Printed by gen_uh.py. -/
import Derived.Test.YtjnllclpdllceaaGreatDoorUd
import Derived.Test.YtjnllclpdllceaaGreatDoorVh
import Derived.Test.YtjnllclpdllceaaGreatDoorVj
import Derived.Lib.AppendStr
import Derived.Test.YtjnllclpdllceaaGreatDoorVd
import Derived.OwnWalk
import Derived.Test.YtjnllclpdllceaaGreatDoorVe
namespace Go.Proofs.YtjnllclpdllceaaGreatDoor
set_option linter.unusedSimpArgs false
set_option linter.unusedVariables false
open Go.RowKit Go.Shelf


theorem itoa_thou {z : Int} (h0 : 0 ≤ z) (h1 : z ≤ 1000) : (Lib.itoa z).length ≤ 1001 := by
  have := decDigits_short z.toNat
  unfold Lib.itoa
  rw [if_neg (by omega)]
  omega

/-- The cells of a turn's block. -/
def LS (b : Nat) (s t : Int) (u : World) : Prop := u.cell? ⟨b, 1, none⟩ = some (.int .i64 s) ∧ u.cell? ⟨b, 2, none⟩ = some (.int .i64 t)
theorem LS.turn {b : Nat} {s t : Int} {u v : World} (h : LS b s t u) (k : Turn Nn u v) : LS b s t v := ⟨cell_turn k h.1, cell_turn k h.2⟩

theorem str_add {a b c : Bs} (h : a ++ b = c) (hl : a.length + b.length ≤ 9223372036854775807) (W : World) : (Op.stringOp .add (BT a) (BT b)).run Tryz.prog W = .ok (.string (BT c)) W := by
  rw [run_string_add_sum W _ _ (by rw [BT_size, BT_size]; omega), BT_append, h]

set_option maxRecDepth 100000 in
set_option maxHeartbeats 8000000 in
theorem line_pick {s t : Int} (s0 : 0 ≤ s) (s1 : s ≤ 99) (t0 : 1 ≤ t) (t1 : t ≤ 1000) (w : World) :
    Calls Tryz.prog 32 #[.agg #[.int .i64 0, .int .i64 s, .int .i64 t]] w fun e w' => e = .returned (.string (BT (lineT ⟨0, s, t⟩))) ∧ Turn Nn w w' := by
  have l1 := itoa_thou s0 (by omega)
  have l2 := itoa_thou (show 0 ≤ t by omega) t1
  have D1 := Lib.hid (fun W => digits_any s0 (by omega) W)
  have D2 := Lib.hid (fun W => digits_any (show 0 ≤ t by omega) (by omega) W)
  obtain ⟨A, hA⟩ : ∃ A, Lib.itoa s = A := ⟨_, rfl⟩
  obtain ⟨B, hB⟩ : ∃ B, Lib.itoa t = B := ⟨_, rfl⟩
  obtain ⟨C, hC⟩ : ∃ C, lineT ⟨0, s, t⟩ = C := ⟨_, rfl⟩
  have hC2 : C = ([112, 105, 99, 107, 32] ++ A) ++ [32] ++ B := by rw [← hC, ← hA, ← hB]; simp [lineT, wPick]
  rw [hA] at D1 l1
  rw [hB] at D2 l2
  rw [hC]
  obtain ⟨X1, h1⟩ : ∃ X, [112, 105, 99, 107, 32] ++ A = X := ⟨_, rfl⟩
  obtain ⟨X2, h2⟩ : ∃ X, X1 ++ [32] = X := ⟨_, rfl⟩
  have h3 : X2 ++ B = C := by rw [hC2, ← h2, ← h1]
  have q1 : X1.length ≤ 1100 := by rw [← h1]; simp; omega
  have q2 : X2.length ≤ 1200 := by rw [← h2]; simp; omega
  have S1 : Hid (∀ W : World, (Op.stringOp .add ⟨#[112, 105, 99, 107, 32]⟩ (BT A)).run Tryz.prog W = .ok (.string (BT X1)) W) := Lib.hid (fun W => str_add h1 (by simp; omega) W)
  have S2 : Hid (∀ W : World, (Op.stringOp .add (BT X1) ⟨#[32]⟩).run Tryz.prog W = .ok (.string (BT X2)) W) := Lib.hid (fun W => str_add h2 (by simp; omega) W)
  have S3 : Hid (∀ W : World, (Op.stringOp .add (BT X2) (BT B)).run Tryz.prog W = .ok (.string (BT C)) W) := Lib.hid (fun W => str_add h3 (by omega) W)
  clear hA hB hC hC2 h1 h2 h3 q1 q2 l1 l2
  obtain ⟨b1, k1⟩ := alloc1 (w := w) (a := .cells #[.int .i64 0, .int .i64 s, .int .i64 t] 60) rfl
  have L0 : Hid (LS w.heap.size s t (w.alloc (.cells #[.int .i64 0, .int .i64 s, .int .i64 t] 60))) := Lib.hid (by refine ⟨?_, ?_⟩ <;> (rw [cell_blk b1]; rfl))
  have K1 := Lib.hid k1
  clear b1 k1
  go_enter Tryz.func32, Tryz.ntmps32
  go_upto_region 3 with (fail)
  refine held_begin (LS w.heap.size s t) (by kernel_rfl) ?_
  generalize hwd : World.drew (w.alloc (.cells #[.int .i64 0, .int .i64 s, .int .i64 t] 60)) = wd
  have TD : Hid (Turn Nn w wd) := Lib.hid (by rw [← hwd]; exact K1.out.drew)
  have LD : Hid (LS w.heap.size s t wd) := Lib.hid (by rw [← hwd]; exact L0.out)
  clear hwd
  refine held_take 0 ?_ rfl (by kernel_rfl) (by kernel_rfl) (by kernel_rfl) (fun _ _ _ h => h) (Or.inl ⟨by kernel_rfl, ?_⟩) LD.out ?_
  rotate_left 1
  · intro u hu; obtain ⟨y1, y2⟩ := hu; go_simp; first | done | with_reducible rfl
  try simp only [Act.put, List.getElem_toArray, List.getElem_cons_succ, List.getElem_cons_zero, List.setIfInBounds_toArray, List.set_cons_succ, List.set_cons_zero]
  refine held_take 1 ?_ rfl (by kernel_rfl) (by kernel_rfl) (by kernel_rfl) (fun _ _ _ h => h) (Or.inl ⟨by kernel_rfl, ?_⟩) LD.out ?_
  rotate_left 1
  · intro u hu; obtain ⟨y1, y2⟩ := hu; go_simp; first | done | with_reducible rfl
  try simp only [Act.put, List.getElem_toArray, List.getElem_cons_succ, List.getElem_cons_zero, List.setIfInBounds_toArray, List.set_cons_succ, List.set_cons_zero]
  refine held_take 5 ?_ rfl (by kernel_rfl) (by kernel_rfl) (by kernel_rfl) (fun _ _ _ h => h) (Or.inl ⟨by kernel_rfl, ?_⟩) LD.out ?_
  rotate_left 1
  · intro u hu; obtain ⟨y1, y2⟩ := hu; go_simp; first | done | with_reducible rfl
  try simp only [Act.put, List.getElem_toArray, List.getElem_cons_succ, List.getElem_cons_zero, List.setIfInBounds_toArray, List.set_cons_succ, List.set_cons_zero]
  refine held_take 6 ?_ rfl (by kernel_rfl) (by kernel_rfl) (by kernel_rfl) (fun _ _ _ h => h) (Or.inl ⟨by kernel_rfl, ?_⟩) LD.out ?_
  rotate_left 1
  · intro u hu; obtain ⟨y1, y2⟩ := hu; go_simp; first | done | with_reducible rfl
  try simp only [Act.put, List.getElem_toArray, List.getElem_cons_succ, List.getElem_cons_zero, List.setIfInBounds_toArray, List.set_cons_succ, List.set_cons_zero]
  refine held_one 2 (by kernel_rfl) rfl (by kernel_rfl) (fun K hK => ?_)
  go_simp
  refine (D1.out _).mono ?_
  rintro e w1 ⟨rfl, t⟩
  have L1 := Lib.hid (LD.out.turn t)
  have T1 := Lib.hid t
  refine hK _ _ L1.out ?_
  clear hK K t
  try simp only [Act.put, List.getElem_toArray, List.getElem_cons_succ, List.getElem_cons_zero, List.setIfInBounds_toArray, List.set_cons_succ, List.set_cons_zero]
  have hs := S1.out
  refine held_take 3 ?_ rfl (by kernel_rfl) (by kernel_rfl) (by kernel_rfl) (fun _ _ _ h => h) (Or.inl ⟨by kernel_rfl, ?_⟩) L1.out ?_
  rotate_left 1
  · intro u hu; obtain ⟨y1, y2⟩ := hu; go_simp; first | done | with_reducible rfl
  try simp only [Act.put, List.getElem_toArray, List.getElem_cons_succ, List.getElem_cons_zero, List.setIfInBounds_toArray, List.set_cons_succ, List.set_cons_zero]
  clear hs
  have hs := S2.out
  refine held_take 4 ?_ rfl (by kernel_rfl) (by kernel_rfl) (by kernel_rfl) (fun _ _ _ h => h) (Or.inl ⟨by kernel_rfl, ?_⟩) L1.out ?_
  rotate_left 1
  · intro u hu; obtain ⟨y1, y2⟩ := hu; go_simp; first | done | with_reducible rfl
  try simp only [Act.put, List.getElem_toArray, List.getElem_cons_succ, List.getElem_cons_zero, List.setIfInBounds_toArray, List.set_cons_succ, List.set_cons_zero]
  clear hs
  refine held_one 7 (by kernel_rfl) rfl (by kernel_rfl) (fun K hK => ?_)
  go_simp
  refine (D2.out _).mono ?_
  rintro e w2 ⟨rfl, t⟩
  have L2 := Lib.hid (L1.out.turn t)
  have T2 := Lib.hid t
  refine hK _ _ L2.out ?_
  clear hK K t
  try simp only [Act.put, List.getElem_toArray, List.getElem_cons_succ, List.getElem_cons_zero, List.setIfInBounds_toArray, List.set_cons_succ, List.set_cons_zero]
  refine held_one 8 (by kernel_rfl) rfl (by kernel_rfl) (fun K hK => ?_)
  have hs := S3.out
  go_simp
  refine hK _ _ L2.out ?_
  clear hK K hs
  try simp only [Act.put, List.getElem_toArray, List.getElem_cons_succ, List.getElem_cons_zero, List.setIfInBounds_toArray, List.set_cons_succ, List.set_cons_zero]
  refine held_one 9 (by kernel_rfl) rfl (by kernel_rfl) (fun K hK => ?_)
  go_simp
  refine hK _ _ L2.out ?_
  clear hK K 
  try simp only [Act.put, List.getElem_toArray, List.getElem_cons_succ, List.getElem_cons_zero, List.setIfInBounds_toArray, List.set_cons_succ, List.set_cons_zero]
  refine wpAnyH_done (by kernel_rfl) ?_ _
  go_wp2_with fail
  go_ret
  exact ⟨rfl, (TD.out.trans T1.out).trans T2.out⟩

set_option maxRecDepth 100000 in
theorem line_any {k s t : Int} (h : turnOk ⟨k, s, t⟩ = true) (w : World) :
    Calls Tryz.prog 32 #[.agg #[.int .i64 k, .int .i64 s, .int .i64 t]] w fun e w' => e = .returned (.string (BT (lineT ⟨k, s, t⟩))) ∧ Turn Nn w w' := by
  by_cases h0 : k = 0
  · subst h0
    rw [turnOk_0] at h
    simp only [Bool.and_eq_true, decide_eq_true_eq] at h
    exact line_pick h.1.1 h.1.2 h.2.1 h.2.2 w
  by_cases h1 : k = 1
  · subst h1
    rw [turnOk_1] at h
    simp only [Bool.and_eq_true, decide_eq_true_eq] at h
    have l2 := itoa_thou (show 0 ≤ t by omega) (by omega)
    have D2 := Lib.hid (fun W => digits_any (show 0 ≤ t by omega) (by omega) W)
    obtain ⟨A, hA⟩ : ∃ A, Lib.itoa t = A := ⟨_, rfl⟩
    have hC : [114, 111, 117, 110, 100, 32] ++ A = lineT ⟨1, s, t⟩ := by rw [← hA]; simp [lineT, wRound]
    rw [hA] at D2 l2
    have hs : ∀ W : World, (Op.stringOp .add ⟨#[114, 111, 117, 110, 100, 32]⟩ (BT A)).run Tryz.prog W = .ok (.string (BT (lineT ⟨1, s, t⟩))) W := fun W => str_add hC (by simp; omega) W
    obtain ⟨C, hC2⟩ : ∃ C, lineT ⟨1, s, t⟩ = C := ⟨_, rfl⟩
    rw [hC2] at hs ⊢
    clear hA hC hC2 l2 h
    go_enter Tryz.func32, Tryz.ntmps32
    go_wp2_with fail
    refine (D2.out _).mono ?_
    rintro e w' ⟨rfl, t'⟩
    have T1 := Lib.hid t'
    clear t'
    go_wp2_with fail
    go_ret
    exact ⟨rfl, ((Turn.refl Nn w).alloc _).trans T1.out⟩
  by_cases h2 : k = 2
  · subst h2
    go_enter Tryz.func32, Tryz.ntmps32
    go_wp2_with fail
    go_ret
    exact ⟨rfl, (Turn.refl Nn w).alloc _⟩
  by_cases h3 : k = 3
  · subst h3
    go_enter Tryz.func32, Tryz.ntmps32
    go_wp2_with fail
    go_ret
    exact ⟨rfl, (Turn.refl Nn w).alloc _⟩
  · rw [turnOk_no k s t h0 h1 h2 h3] at h; cases h


def byteCells (L : Bs) : List Value := L.map fun c => .int .u8 (c.toNat : Int)

/-- Behind w0: a slice of own bytes. -/
structure OBS (w0 : World) (v : Value) (L : Bs) (w : World) : Prop where
  own : w.ownsRow w0.heap.size 5 1 v L.length (byteCells L)
  low : Turn Nn w0 w

theorem OBS.nil {w0 w : World} (t : Turn Nn w0 w) : OBS w0 (.slice none 0 0) [] w := ⟨⟨rfl, .inl ⟨rfl, rfl⟩⟩, t⟩
theorem OBS.turn {w0 w w' : World} {v : Value} {L : Bs} (h : OBS w0 v L w) (t : Turn Nn w w') : OBS w0 v L w' := ⟨ownsRow_turn h.own t, h.low.trans t⟩
theorem OBS.shape {w0 w : World} {v : Value} {L : Bs} (h : OBS w0 v L w) : ∃ pa n cap, v = .slice pa n cap := by
  rcases h.own.2 with ⟨e, _⟩ | ⟨_, _, _, e, _⟩
  · exact ⟨_, _, _, e⟩
  · exact ⟨_, _, _, e⟩

theorem grown_low {w0 w w' : World} {b : Option Nat} (h : Turn Nn w0 w) (g : w.grownBy w' b) (hb : ∀ j, b = some j → w0.heap.size ≤ j) : Turn Nn w0 w' :=
  ⟨g.os.trans h.os, g.tape.trans h.tape, g.output.trans h.output, Nat.le_trans h.size g.size, fun j hj hs =>
    (g.block j (Nat.lt_of_lt_of_le hj h.size) (fun e => by have := hb j e.symm; omega)).trans (h.block j hj hs)⟩

theorem strCells_BT (x : Bs) : Lib.strCells (BT x) = byteCells x := by
  unfold Lib.strCells byteCells BT; simp

theorem OBS.str {w0 w : World} {v : Value} {L : Bs} (h : OBS w0 v L w) (x : Bs) (ty : TypeId) (hl : L.length + x.length ≤ 140737488355328) :
    ∃ pa n cap W', (Builtin.append_ #[28, 9] ty #[v, .string (BT x)]).run Tryz.prog w = .ok (.slice pa n cap) W' ∧ OBS w0 (.slice pa n cap) (L ++ x) W' := by
  obtain ⟨i0, hi, hz0, hz1, hz2⟩ := info_parts infoB
  have hs : (BT x).size = x.length := BT_size x
  obtain ⟨v', W', hrun, hown', hgrow, _⟩ := Lib.run_append_own_string (P := Tryz.prog) w w0.heap.size 28 9 ty 5 i0 Tryz.underlying28 Tryz.underlying9 hi hz0 hz1 hz2 v _ _ h.own (BT x) (by unfold maxLen; omega) (by omega) h.low.size
  have hO : OBS w0 v' (L ++ x) W' := by
    refine ⟨?_, grown_low h.low hgrow (fun j e => (h.own.lt j e).1)⟩
    rw [strCells_BT, hs] at hown'
    have e1 : byteCells (L ++ x) = byteCells L ++ byteCells x := by unfold byteCells; simp
    rw [e1, List.length_append]; exact hown'
  obtain ⟨pa, n, cap, rfl⟩ := hO.shape
  exact ⟨pa, n, cap, W', hrun, hO⟩

theorem OBS.byte {w0 w : World} {v : Value} {L : Bs} (h : OBS w0 v L w) (c : UInt8) (z : Int) (hz : z = (c.toNat : Int)) (ty : TypeId) (hl : L.length + 1 ≤ 140737488355328) :
    ∃ pa n cap W', (Builtin.append_ #[28, 28] ty #[v, .slice (some ⟨w.heap.size, 0, none⟩) 1 1]).run Tryz.prog (w.alloc (.cells #[.int .u8 z] 5)) = .ok (.slice pa n cap) W' ∧ OBS w0 (.slice pa n cap) (L ++ [c]) W' := by
  obtain ⟨i0, hi, hz0, hz1, hz2⟩ := info_parts infoB
  have t8 : Turn Nn w (w.alloc (.cells #[.int .u8 z] 5)) := (Turn.refl Nn w).alloc _
  have h1 := h.turn t8
  have hnew : (w.alloc (.cells #[.int .u8 z] 5)).heap[w.heap.size]? = some (.cells #[.int .u8 z] 5) := World.alloc_heap_new _ _
  obtain ⟨v', W', hrun, hown', hgrow, _, _⟩ := run_append_own_at (P := Tryz.prog) (w.alloc (.cells #[.int .u8 z] 5)) w0.heap.size 28 ty 5 i0 _ 1 1 Tryz.underlying28 hi hz0 hz1 hz2 rfl (by decide) v _ _ h1.own ⟨w.heap.size, 0, none⟩ 1 1 [.int .u8 z] rfl
    (fun j u hj => by
      have hj3 : j < 1 := by
        have := (List.getElem?_eq_some_iff.1 hj).1
        simpa using this
      have : (⟨w.heap.size, 0, none⟩ : Addr).add j = ⟨w.heap.size, j, none⟩ := by unfold Addr.add; split <;> simp_all
      rw [this, cell_blk hnew]
      simpa using hj)
    (fun u hu => by simp at hu; subst hu; rfl) (by simp only [maxLen]; omega) (by omega) h1.low.size
  have hO : OBS w0 v' (L ++ [c]) W' := by
    refine ⟨?_, grown_low h1.low hgrow (fun j e => (h1.own.lt j e).1)⟩
    have e1 : byteCells (L ++ [c]) = byteCells L ++ [.int .u8 z] := by unfold byteCells; rw [hz]; simp
    rw [e1, List.length_append]; exact hown'
  obtain ⟨pa, n, cap, rfl⟩ := hO.shape
  exact ⟨pa, n, cap, W', hrun, hO⟩

theorem OBS.conv {w0 w : World} {v : Value} {L : Bs} (h : OBS w0 v L w) : (convert 28 9 v).run Tryz.prog w = .ok (.string (BT L)) w := by
  rcases h.own.2 with ⟨rfl, h0⟩ | ⟨g, cap, cur, rfl, hb, hg, hn, _, hsz, ht⟩
  · have : L = [] := List.eq_nil_of_length_eq_zero h0
    subst this
    exact run_convert_bytes_nil w 28 5 Tryz.underlying28 Tryz.underlying5 0 0 9 Tryz.underlying9
  · have hc := conv_blk (n := L.length) (cap := cap) (zs := L.map fun c => (c.toNat : Int)) hg (fun i hi => by
      have e1 : cur[i]? = (cur.toList.take (L.length * 1))[i]? := by
        rw [List.getElem?_take_of_lt (by omega)]; simp
      rw [e1, ht]
      unfold byteCells
      simp [hi]) (by simp)
    rw [hc]
    refine congrArg (fun z => Result.ok (Value.string z) w) ?_
    unfold strOfNums BT
    refine congrArg (fun z : List UInt8 => (⟨z.toArray⟩ : ByteArray)) ?_
    simp [Function.comp_def]

/-- append of a text to bytes, by the equation of its run. -/
theorem wpList_append_eq2 {P : Program} {w : World} {ops : Array Oper} {rest : List Oper} {o : Oper} {a : Act} {Q : Exit → Act → World → Prop}
    (hg : o.guard = none) (s x : Operand) (t t2 : TypeId) (hop : o.op = Op.call { callee := Callee.builtin Builtin.append, args := #[s, x], argTypes := #[t, t2] })
    (v u : Value) (hs : a.eval s = v) (hx : a.eval x = u) {r : Value} {W' : World} (hrun : (Builtin.append_ #[t, t2] o.type #[v, u]).run P w = .ok r W')
    (hK : wpList P ops Q rest (a.put o.dst r) W') : wpList P ops Q (o :: rest) a w := by
  refine wpList_plain hg fun K hK' => ?_
  unfold Oper.wp
  simp [execOp, hop, resolve, invoke, builtin, hs, hx, hrun, Result.andThen]
  exact hK' _ _ hK
theorem oper_append_eq2 {P : Program} {w : World} {o : Oper} {a : Act} {K : Act → World → Prop} {Q : Exit → Act → World → Prop}
    (s x : Operand) (t t2 : TypeId) (hop : o.op = Op.call { callee := Callee.builtin Builtin.append, args := #[s, x], argTypes := #[t, t2] })
    (v u : Value) (hs : a.eval s = v) (hx : a.eval x = u) {r : Value} {W' : World} (hrun : (Builtin.append_ #[t, t2] o.type #[v, u]).run P w = .ok r W')
    (hK : K (a.put o.dst r) W') : o.wp P a w K Q := by
  unfold Oper.wp
  simp [execOp, hop, resolve, invoke, builtin, hs, hx, hrun, Result.andThen]
  exact hK

theorem held_three {P : Program} {ops : Array Oper} {Q : Exit → Act → World → Prop} {md : Region.Mode} {S : World → Prop} (i j m : Nat) {oi oj om : Oper} {k : Nat} {l : Array Bool} {a : Act} {w : World} (hr : Region.ready md ops l = [i, j, m]) (hi : ops[i]? = some oi) (hj : ops[j]? = some oj) (hm : ops[m]? = some om)
    (hxi : Region.wanted oi (yielded ops a.tmps) = true) (hxj : Region.wanted oj (yielded ops a.tmps) = true) (hxm : Region.wanted om (yielded ops a.tmps) = true)
    (h1 : ∀ K : Act → World → Prop, (∀ b u, S u → wpAnyH P md ops Q S k (l.setIfInBounds i true) b u → K b u) → Oper.wp P oi a w K Q)
    (h2 : ∀ K : Act → World → Prop, (∀ b u, S u → wpAnyH P md ops Q S k (l.setIfInBounds j true) b u → K b u) → Oper.wp P oj a w K Q)
    (h3 : ∀ K : Act → World → Prop, (∀ b u, S u → wpAnyH P md ops Q S k (l.setIfInBounds m true) b u → K b u) → Oper.wp P om a w K Q) : wpAnyH P md ops Q S (k + 1) l a w := by
  refine ⟨fun h0 => (by rw [hr] at h0; cases h0), fun t ht => ?_⟩
  rw [hr] at ht
  have ht : t = i ∨ t = j ∨ t = m := by simpa using ht
  unfold wpOp
  rcases ht with rfl | rfl | rfl
  · simp only [hi]
    rw [if_pos hxi]
    exact Or.inl (h1 _ (fun b u h1 h2 => ⟨h1, h2⟩))
  · simp only [hj]
    rw [if_pos hxj]
    exact Or.inl (h2 _ (fun b u h1 h2 => ⟨h1, h2⟩))
  · simp only [hm]
    rw [if_pos hxm]
    exact Or.inl (h3 _ (fun b u h1 h2 => ⟨h1, h2⟩))

theorem blk_set {w : World} {b c o : Nat} {x : Value} {ob : Obj} (h : w.heap[c]? = some ob) (hne : c ≠ b) : (w.setCell ⟨b, o, none⟩ x).heap[c]? = some ob := by
  rw [Below.heap_setCell _ _ _ _ (fun e => hne e)]
  exact h


def bT (s : ScriptD) (i : Nat) : Bs := flat (headT s :: (chunks (s.mod.take i)).map bytesLine)
def tT (s : ScriptD) (j : Nat) : Bs := flat (headT s :: ((chunks s.mod).map bytesLine ++ (s.turns.take j).map lineT))

theorem bT_zero (s : ScriptD) : bT s 0 = headT s ++ [10] := by
  unfold bT
  rw [List.take_zero]
  unfold chunks
  simp [flat]
theorem bT_step {s : ScriptD} {i : Nat} (h24 : i % 24 = 0) (h : i < s.mod.length) : bT s (i + 24) = (bT s i ++ bytesLine ((s.mod.drop i).take 24)) ++ [10] := by
  unfold bT
  have h1 : s.mod.take (i + 24) = s.mod.take i ++ (s.mod.drop i).take 24 := List.take_add
  have h2 : (s.mod.drop i).take 24 ≠ [] := by
    intro e
    have := congrArg List.length e
    simp at this
    omega
  rw [h1, chunks_snoc _ _ _ (Nat.le_refl _) (by rw [List.length_take, Nat.min_eq_left (by omega)]; exact h24) h2 (by simp; omega)]
  simp [flat, flat_append]
theorem bT_end {s : ScriptD} {i : Nat} (h : s.mod.length ≤ i) : bT s i = tT s 0 := by
  unfold bT tT
  rw [List.take_of_length_le h]
  simp
theorem tT_step {s : ScriptD} {j : Nat} (h : j < s.turns.length) : tT s (j + 1) = (tT s j ++ lineT s.turns[j]) ++ [10] := by
  unfold tT
  rw [List.take_succ_eq_append_getElem h]
  simp only [List.map_append, List.map_cons, List.map_nil, flat, flat_append, List.append_assoc, List.cons_append, List.nil_append, List.append_nil]
theorem tT_end (s : ScriptD) : tT s s.turns.length = textT s := by
  unfold tT
  rw [List.take_length, textT_lines]
  rfl

theorem bytesLine_short {c : Bs} (h : c.length ≤ 24) : (bytesLine c).length ≤ 54 := by
  unfold bytesLine
  simp [hexL_length, wBytes]
  omega
theorem lineT_short {t : TurnD} (h : turnOk t = true) : (lineT t).length ≤ 2100 := by
  obtain ⟨k, s, t⟩ := t
  by_cases h0 : k = 0
  · subst h0
    rw [turnOk_0] at h
    simp only [Bool.and_eq_true, decide_eq_true_eq] at h
    have l1 := itoa_thou h.1.1 (by omega)
    have l2 := itoa_thou (show 0 ≤ t by omega) h.2.2
    simp [lineT, wPick]; omega
  by_cases h1 : k = 1
  · subst h1
    rw [turnOk_1] at h
    simp only [Bool.and_eq_true, decide_eq_true_eq] at h
    have l2 := itoa_thou (show 0 ≤ t by omega) h.2.2
    simp [lineT, wRound]; omega
  · unfold lineT
    simp only [h0, h1, if_false]
    split <;> simp [wShow, wRows]

set_option maxRecDepth 100000 in
set_option maxHeartbeats 4000000 in
theorem refPrint_no1 {s : ScriptD} {v : Value} {w : World} (h : configOk s.chans s.actors s.cap = false) :
    Calls Tryz.prog 9 #[.agg (scriptA s v)] w (PrintPost w s) := by
  have hp : printD s = ([], 2) := by unfold printD; rw [if_pos (.inl h)]
  have HP := Lib.hid hp
  clear hp
  unfold PrintPost
  rw [HP.out]
  simp only [scriptA]
  go_enter Tryz.func9, Tryz.ntmps9
  go_wp2_with fail
  refine (refConfig_any _ _ _ _).mono ?_
  rintro e w2 ⟨rfl, t2⟩
  have T2 := Lib.hid t2
  clear t2
  rw [h]
  go_wp2_with fail
  go_ret2
  exact ⟨rfl, ((Turn.refl Nn w).alloc _).trans T2.out⟩


/-- The first cells of a script's box. -/
def BX (b : Nat) (x y z : Int) (u : World) : Prop := u.cell? ⟨b, 0, none⟩ = some (.int .i64 x) ∧ u.cell? ⟨b, 1, none⟩ = some (.int .i64 y) ∧ u.cell? ⟨b, 2, none⟩ = some (.int .i64 z)
theorem BX.turn {b : Nat} {x y z : Int} {u v : World} (h : BX b x y z u) (k : Turn Nn u v) : BX b x y z v := ⟨cell_turn k h.1, cell_turn k h.2.1, cell_turn k h.2.2⟩

theorem config_bounds {a b c : Int} (h : configOk a b c = true) : 1 ≤ a ∧ a ≤ 64 ∧ 1 ≤ b ∧ b ≤ 32 ∧ 1 ≤ c ∧ c ≤ 16 := by
  unfold configOk at h
  exact of_decide_eq_true h

theorem cut24 {l : Bs} {q : Nat} (h : q ≤ l.length) : (BT l).extract q (min ((q : Int) + 24) ((BT l).size : Int)).toNat = BT ((l.drop q).take 24) := by
  rw [BT_size]
  have e : (min ((q : Int) + 24) (l.length : Int)).toNat = min (q + 24) l.length := by omega
  rw [e]
  unfold BT
  apply ByteArray.ext
  simp only [ByteArray.data_extract, List.extract_toArray]
  congr 1
  rw [List.extract_eq_take_drop]
  by_cases hq : q + 24 ≤ l.length
  · rw [Nat.min_eq_left hq]; simp
  · rw [Nat.min_eq_right (by omega)]
    rw [List.take_of_length_le (by simp), List.take_of_length_le (by simp; omega)]

/-- What stands ahead of the first line's end, but for the twin's word. -/
def head0 (s : ScriptD) : Bs := wMachine ++ 32 :: Lib.itoa s.chans ++ 32 :: Lib.itoa s.actors ++ 32 :: Lib.itoa s.cap

set_option maxRecDepth 100000 in
set_option maxHeartbeats 40000000 in
theorem refPrint_yes {s : ScriptD} {v : Value} {w : World} (h : configOk s.chans s.actors s.cap = true) (hv : TSl w v s.turns) (hn : s.turns.length ≤ 1000000) (hm : s.mod.length ≤ 1000000) :
    Calls Tryz.prog 9 #[.agg (scriptA s v)] w (PrintPost w s) := by
  obtain ⟨pa, cap, hsh⟩ := hv.shape
  subst hsh
  obtain ⟨w1, hw1⟩ : ∃ w1, w.alloc (.cells (scriptA s (.slice pa s.turns.length cap)) 26) = w1 := ⟨_, rfl⟩
  obtain ⟨b1, t1⟩ := alloc1 hw1
  have B1 := Lib.hid b1
  have T1 := Lib.hid t1
  have HV := Lib.hid (hv.turn t1)
  have HC := Lib.hid h
  obtain ⟨M, hM⟩ : ∃ M, BT s.mod = M := ⟨_, rfl⟩
  have hMs : M.size = s.mod.length := by rw [← hM, BT_size]
  obtain ⟨N, hN⟩ : ∃ N, s.turns.length = N := ⟨_, rfl⟩
  obtain ⟨cx, hcx⟩ : ∃ c, s.chans = c := ⟨_, rfl⟩
  obtain ⟨cy, hcy⟩ : ∃ c, s.actors = c := ⟨_, rfl⟩
  obtain ⟨cz, hcz⟩ : ∃ c, s.cap = c := ⟨_, rfl⟩
  obtain ⟨tw, htw⟩ : ∃ c, s.twin = c := ⟨_, rfl⟩
  simp only [scriptA] at hw1 B1 ⊢
  rw [hM, hN, hcx, hcy, hcz, htw] at hw1 B1
  rw [hM, hN, hcx, hcy, hcz, htw]
  rw [hN] at HV
  rw [hcx, hcy, hcz] at HC
  have hNl : N ≤ 1000000 := by omega
  have hMl : M.size ≤ 1000000 := by omega
  have HM := Lib.hid hM
  have HMS := Lib.hid hMs
  have HN := Lib.hid hN
  have HS : Hid (s.chans = cx ∧ s.actors = cy ∧ s.cap = cz ∧ s.twin = tw) := Lib.hid ⟨hcx, hcy, hcz, htw⟩
  clear b1 t1 hv h hM hMs hN hcx hcy hcz htw hn hm
  obtain ⟨f0, f1, f2, f3, f4, f5⟩ := cells6 B1.out
  go_enter Tryz.func9, Tryz.ntmps9
  go_wp2_with fail
  clear f0 f1 f2 f3 f4 f5
  refine (refConfig_any _ _ _ _).mono ?_
  rintro e w2 ⟨rfl, t2⟩
  have T2 := Lib.hid t2
  clear t2
  rw [HC.out]
  go_wp2_with fail
  go_loopw [4] (fun i wr => ∃ k : Nat, k ≤ N ∧ i = .int .i64 k ∧ badT (s.turns.take k) = false ∧ Turn Nn w1 wr) (fun i _ => N - (intOf i).toNat)
  case atStart => exact ⟨0, by omega, rfl, rfl, T2.out⟩
  case round =>
    obtain ⟨k, hk, rfl, hb, ht⟩ := hrel
    have HB := Lib.hid hb
    have HT := Lib.hid ht
    obtain ⟨f0, f1, f2, f3, f4, f5⟩ := cells6 ((ht.block _ (heap_lt B1.out) (fun h => h)).trans B1.out)
    by_cases hlt : k < N
    · have hkt : k < s.turns.length := by rw [HN.out]; exact hlt
      have hne : s.turns ≠ [] := by intro e; rw [e] at hkt; simp at hkt
      obtain ⟨tb, tof, cap', hv', hcp, hcell⟩ := HV.out.resolve_left (fun h => hne h.1)
      simp only [Value.slice.injEq] at hv'
      obtain ⟨rfl, hNN, rfl⟩ := hv'
      clear hNN hne
      obtain ⟨h1, h2, h3⟩ := (hcell k hkt).turn ht
      have HW := Lib.hid (refTurn_any s.turns[k].kind s.turns[k].slot s.turns[k].times wr)
      cases hok : turnOk s.turns[k] with
      | false =>
        have HR : Hid (printD s = ([], 2)) := Lib.hid (by unfold printD; rw [if_pos (.inr (badT_some hkt hok))])
        have hok' : turnOk ⟨s.turns[k].kind, s.turns[k].slot, s.turns[k].times⟩ = false := hok
        rw [hok'] at HW
        obtain ⟨x1, hx1⟩ : ∃ x, s.turns[k].kind = x := ⟨_, rfl⟩
        obtain ⟨x2, hx2⟩ : ∃ x, s.turns[k].slot = x := ⟨_, rfl⟩
        obtain ⟨x3, hx3⟩ : ∃ x, s.turns[k].times = x := ⟨_, rfl⟩
        rw [hx1] at h1 HW
        rw [hx2] at h2 HW
        rw [hx3] at h3 HW
        clear hok hok' hb ht hx1 hx2 hx3 hkt hcell
        go_wp2_with fail
        refine HW.out.mono ?_
        rintro e w3 ⟨rfl, ht1⟩
        have HT1 := Lib.hid ((T1.out.trans HT.out).trans ht1)
        clear ht1
        go_wp2
        go_ret2
        exact ⟨by rw [HR.out]; rfl, HT1.out⟩
      | true =>
        have HR := Lib.hid (badT_step hb hkt hok)
        have hok' : turnOk ⟨s.turns[k].kind, s.turns[k].slot, s.turns[k].times⟩ = true := hok
        rw [hok'] at HW
        obtain ⟨x1, hx1⟩ : ∃ x, s.turns[k].kind = x := ⟨_, rfl⟩
        obtain ⟨x2, hx2⟩ : ∃ x, s.turns[k].slot = x := ⟨_, rfl⟩
        obtain ⟨x3, hx3⟩ : ∃ x, s.turns[k].times = x := ⟨_, rfl⟩
        rw [hx1] at h1 HW
        rw [hx2] at h2 HW
        rw [hx3] at h3 HW
        clear hok hok' hb ht hx1 hx2 hx3 hkt hcell
        go_wp2_with fail
        refine HW.out.mono ?_
        rintro e w3 ⟨rfl, ht1⟩
        have HT1 := Lib.hid (HT.out.trans ht1)
        clear ht1
        go_wp2_with fail
        go_roundw
        case rel => exact ⟨k + 1, by omega, by go_num, HR.out, HT1.out⟩
        case measure => simp [intOf]; omega
    · have hkN : k = N := by omega
      have HB2 : Hid (badT s.turns = false) := Lib.hid (badT_none hb (by rw [HN.out]; exact hkN))
      have HC2 : Hid (configOk s.chans s.actors s.cap = true) := Lib.hid (by obtain ⟨e1, e2, e3, _⟩ := HS.out; rw [e1, e2, e3]; exact HC.out)
      clear hb hkN
      by_cases hbig : 65536 < M.size
      · have HR : Hid (printD s = ([], 4)) := Lib.hid (by unfold printD; rw [if_neg (noBad HC2.out HB2.out), if_pos (.inl (by rw [← HMS.out]; exact hbig))])
        have h2 : (65536 : Int) < (M.size : Int) := by omega
        clear ht hbig
        go_wp2_with fail
        go_ret2
        exact ⟨by rw [HR.out]; rfl, T1.out.trans HT.out⟩
      by_cases hbig2 : 4096 < N
      · have HR : Hid (printD s = ([], 4)) := Lib.hid (by unfold printD; rw [if_neg (noBad HC2.out HB2.out), if_pos (.inr (by rw [HN.out]; exact hbig2))])
        have h2 : (4096 : Int) < (N : Int) := by omega
        have h3 : ¬ (65536 : Int) < (M.size : Int) := by omega
        clear ht hbig2 hbig
        go_wp2_with fail
        go_ret2
        exact ⟨by rw [HR.out]; rfl, T1.out.trans HT.out⟩
      have HR : Hid (printD s = (textT s, 0)) := Lib.hid (by
        unfold printD
        rw [if_neg (noBad HC2.out HB2.out), if_neg]
        rintro (e | e)
        · rw [← HMS.out] at e; exact hbig e
        · rw [HN.out] at e; exact hbig2 e)
      have h2 : ¬ (4096 : Int) < (N : Int) := by omega
      have h3 : ¬ (65536 : Int) < (M.size : Int) := by omega
      obtain ⟨a1, a2, a3, a4, a5, a6⟩ := config_bounds HC.out
      have l1 := itoa_thou (show 0 ≤ cx by omega) (by omega)
      have l2 := itoa_thou (show 0 ≤ cy by omega) (by omega)
      have l3 := itoa_thou (show 0 ≤ cz by omega) (by omega)
      have D1 := Lib.hid (fun W => digits_any (show 0 ≤ cx by omega) (by omega) W)
      have D2 := Lib.hid (fun W => digits_any (show 0 ≤ cy by omega) (by omega) W)
      have D3 := Lib.hid (fun W => digits_any (show 0 ≤ cz by omega) (by omega) W)
      have E0 : head0 s = ((((wMachine ++ [32]) ++ Lib.itoa cx) ++ [32] ++ Lib.itoa cy) ++ [32]) ++ Lib.itoa cz := by
        obtain ⟨e1, e2, e3, _⟩ := HS.out
        unfold head0
        rw [e1, e2, e3]
        simp
      obtain ⟨A, hA⟩ : ∃ A, Lib.itoa cx = A := ⟨_, rfl⟩
      obtain ⟨B, hB⟩ : ∃ B, Lib.itoa cy = B := ⟨_, rfl⟩
      obtain ⟨C, hC⟩ : ∃ C, Lib.itoa cz = C := ⟨_, rfl⟩
      obtain ⟨H0, hH0⟩ : ∃ H, head0 s = H := ⟨_, rfl⟩
      rw [hA, hB, hC, hH0] at E0
      rw [hA] at D1 l1
      rw [hB] at D2 l2
      rw [hC] at D3 l3
      obtain ⟨X1, h4⟩ : ∃ X, (wMachine ++ [32]) ++ A = X := ⟨_, rfl⟩
      obtain ⟨X2, h5⟩ : ∃ X, X1 ++ [32] = X := ⟨_, rfl⟩
      obtain ⟨X3, h6⟩ : ∃ X, X2 ++ B = X := ⟨_, rfl⟩
      obtain ⟨X4, h7⟩ : ∃ X, X3 ++ [32] = X := ⟨_, rfl⟩
      have h8 : X4 ++ C = H0 := by rw [E0, ← h7, ← h6, ← h5, ← h4]
      have q1 : X1.length ≤ 1100 := by rw [← h4]; simp [wMachine]; omega
      have q2 : X2.length ≤ 1200 := by rw [← h5]; simp; omega
      have q3 : X3.length ≤ 2300 := by rw [← h6]; simp; omega
      have q4 : X4.length ≤ 2400 := by rw [← h7]; simp; omega
      have q5 : H0.length ≤ 3500 := by rw [← h8]; simp; omega
      have S1 : Hid (∀ W : World, (Op.stringOp .add ⟨#[109, 97, 99, 104, 105, 110, 101, 32]⟩ (BT A)).run Tryz.prog W = .ok (.string (BT X1)) W) := Lib.hid (fun W => str_add (a := wMachine ++ [32]) h4 (by simp [wMachine]; omega) W)
      have S2 : Hid (∀ W : World, (Op.stringOp .add (BT X1) ⟨#[32]⟩).run Tryz.prog W = .ok (.string (BT X2)) W) := Lib.hid (fun W => str_add h5 (by simp; omega) W)
      have S3 : Hid (∀ W : World, (Op.stringOp .add (BT X2) (BT B)).run Tryz.prog W = .ok (.string (BT X3)) W) := Lib.hid (fun W => str_add h6 (by omega) W)
      have S4 : Hid (∀ W : World, (Op.stringOp .add (BT X3) ⟨#[32]⟩).run Tryz.prog W = .ok (.string (BT X4)) W) := Lib.hid (fun W => str_add h7 (by simp; omega) W)
      have S5 : Hid (∀ W : World, (Op.stringOp .add (BT X4) (BT C)).run Tryz.prog W = .ok (.string (BT H0)) W) := Lib.hid (fun W => str_add h8 (by omega) W)
      have HH0 := Lib.hid hH0
      have Q5 := Lib.hid q5
      have HM6 : Hid (M.size ≤ 65536) := Lib.hid (by omega)
      clear E0 hA hB hC hH0 h4 h5 h6 h7 h8 q1 q2 q3 q4 q5 l1 l2 l3 a1 a2 a3 a4 a5 a6
      clear hbig hbig2
      go_wp2_with fail
      have LR : BX w.heap.size cx cy cz wr := ⟨f0, f1, f2⟩
      refine held_begin (BX w.heap.size cx cy cz) (by kernel_rfl) ?_
      generalize hwd : World.drew wr = wd
      have TD : Hid (Turn Nn w1 wd) := Lib.hid (by rw [← hwd]; exact HT.out.drew)
      have LD : Hid (BX w.heap.size cx cy cz wd) := Lib.hid (by rw [← hwd]; exact LR)
      clear hwd LR f0 f1 f2 f3 f4 f5 ht h2 h3
      refine held_take 0 ?_ rfl (by kernel_rfl) (by kernel_rfl) (by kernel_rfl) (fun _ _ _ h => h) (Or.inl ⟨by kernel_rfl, ?_⟩) LD.out ?_
      rotate_left 1
      · intro u hu; obtain ⟨y1, y2, y3⟩ := hu; go_simp; first | done | with_reducible rfl
      try simp only [Act.put, List.getElem_toArray, List.getElem_cons_succ, List.getElem_cons_zero, List.setIfInBounds_toArray, List.set_cons_succ, List.set_cons_zero]
      refine held_take 1 ?_ rfl (by kernel_rfl) (by kernel_rfl) (by kernel_rfl) (fun _ _ _ h => h) (Or.inl ⟨by kernel_rfl, ?_⟩) LD.out ?_
      rotate_left 1
      · intro u hu; obtain ⟨y1, y2, y3⟩ := hu; go_simp; first | done | with_reducible rfl
      try simp only [Act.put, List.getElem_toArray, List.getElem_cons_succ, List.getElem_cons_zero, List.setIfInBounds_toArray, List.set_cons_succ, List.set_cons_zero]
      refine held_take 2 ?_ rfl (by kernel_rfl) (by kernel_rfl) (by kernel_rfl) (fun _ _ _ h => h) (Or.inl ⟨by kernel_rfl, ?_⟩) LD.out ?_
      rotate_left 1
      · intro u hu; obtain ⟨y1, y2, y3⟩ := hu; go_simp; first | done | with_reducible rfl
      try simp only [Act.put, List.getElem_toArray, List.getElem_cons_succ, List.getElem_cons_zero, List.setIfInBounds_toArray, List.set_cons_succ, List.set_cons_zero]
      refine held_take 3 ?_ rfl (by kernel_rfl) (by kernel_rfl) (by kernel_rfl) (fun _ _ _ h => h) (Or.inl ⟨by kernel_rfl, ?_⟩) LD.out ?_
      rotate_left 1
      · intro u hu; obtain ⟨y1, y2, y3⟩ := hu; go_simp; first | done | with_reducible rfl
      try simp only [Act.put, List.getElem_toArray, List.getElem_cons_succ, List.getElem_cons_zero, List.setIfInBounds_toArray, List.set_cons_succ, List.set_cons_zero]
      refine held_take 7 ?_ rfl (by kernel_rfl) (by kernel_rfl) (by kernel_rfl) (fun _ _ _ h => h) (Or.inl ⟨by kernel_rfl, ?_⟩) LD.out ?_
      rotate_left 1
      · intro u hu; obtain ⟨y1, y2, y3⟩ := hu; go_simp; first | done | with_reducible rfl
      try simp only [Act.put, List.getElem_toArray, List.getElem_cons_succ, List.getElem_cons_zero, List.setIfInBounds_toArray, List.set_cons_succ, List.set_cons_zero]
      refine held_take 8 ?_ rfl (by kernel_rfl) (by kernel_rfl) (by kernel_rfl) (fun _ _ _ h => h) (Or.inl ⟨by kernel_rfl, ?_⟩) LD.out ?_
      rotate_left 1
      · intro u hu; obtain ⟨y1, y2, y3⟩ := hu; go_simp; first | done | with_reducible rfl
      try simp only [Act.put, List.getElem_toArray, List.getElem_cons_succ, List.getElem_cons_zero, List.setIfInBounds_toArray, List.set_cons_succ, List.set_cons_zero]
      refine held_take 9 ?_ rfl (by kernel_rfl) (by kernel_rfl) (by kernel_rfl) (fun _ _ _ h => h) (Or.inl ⟨by kernel_rfl, ?_⟩) LD.out ?_
      rotate_left 1
      · intro u hu; obtain ⟨y1, y2, y3⟩ := hu; go_simp; first | done | with_reducible rfl
      try simp only [Act.put, List.getElem_toArray, List.getElem_cons_succ, List.getElem_cons_zero, List.setIfInBounds_toArray, List.set_cons_succ, List.set_cons_zero]
      refine held_take 13 ?_ rfl (by kernel_rfl) (by kernel_rfl) (by kernel_rfl) (fun _ _ _ h => h) (Or.inl ⟨by kernel_rfl, ?_⟩) LD.out ?_
      rotate_left 1
      · intro u hu; obtain ⟨y1, y2, y3⟩ := hu; go_simp; first | done | with_reducible rfl
      try simp only [Act.put, List.getElem_toArray, List.getElem_cons_succ, List.getElem_cons_zero, List.setIfInBounds_toArray, List.set_cons_succ, List.set_cons_zero]
      refine held_take 14 ?_ rfl (by kernel_rfl) (by kernel_rfl) (by kernel_rfl) (fun _ _ _ h => h) (Or.inl ⟨by kernel_rfl, ?_⟩) LD.out ?_
      rotate_left 1
      · intro u hu; obtain ⟨y1, y2, y3⟩ := hu; go_simp; first | done | with_reducible rfl
      try simp only [Act.put, List.getElem_toArray, List.getElem_cons_succ, List.getElem_cons_zero, List.setIfInBounds_toArray, List.set_cons_succ, List.set_cons_zero]
      refine held_take 15 ?_ rfl (by kernel_rfl) (by kernel_rfl) (by kernel_rfl) (fun _ _ _ h => h) (Or.inl ⟨by kernel_rfl, ?_⟩) LD.out ?_
      rotate_left 1
      · intro u hu; obtain ⟨y1, y2, y3⟩ := hu; go_simp; first | done | with_reducible rfl
      try simp only [Act.put, List.getElem_toArray, List.getElem_cons_succ, List.getElem_cons_zero, List.setIfInBounds_toArray, List.set_cons_succ, List.set_cons_zero]
      refine held_one 4 (by kernel_rfl) rfl (by kernel_rfl) (fun K hK => ?_)
      go_simp
      refine (D1.out _).mono ?_
      rintro e w3 ⟨rfl, t⟩
      have L1 := Lib.hid (LD.out.turn t)
      have T3 := Lib.hid t
      refine hK _ _ L1.out ?_
      clear hK K t
      try simp only [Act.put, List.getElem_toArray, List.getElem_cons_succ, List.getElem_cons_zero, List.setIfInBounds_toArray, List.set_cons_succ, List.set_cons_zero]
      refine held_take 5 ?_ rfl (by kernel_rfl) (by kernel_rfl) (by kernel_rfl) (fun _ _ _ h => h) (Or.inl ⟨by kernel_rfl, ?_⟩) L1.out ?_
      rotate_left 1
      · intro u hu; obtain ⟨y1, y2, y3⟩ := hu; have hs := S1.out; go_simp; first | done | with_reducible rfl
      try simp only [Act.put, List.getElem_toArray, List.getElem_cons_succ, List.getElem_cons_zero, List.setIfInBounds_toArray, List.set_cons_succ, List.set_cons_zero]
      refine held_take 6 ?_ rfl (by kernel_rfl) (by kernel_rfl) (by kernel_rfl) (fun _ _ _ h => h) (Or.inl ⟨by kernel_rfl, ?_⟩) L1.out ?_
      rotate_left 1
      · intro u hu; obtain ⟨y1, y2, y3⟩ := hu; have hs := S2.out; go_simp; first | done | with_reducible rfl
      try simp only [Act.put, List.getElem_toArray, List.getElem_cons_succ, List.getElem_cons_zero, List.setIfInBounds_toArray, List.set_cons_succ, List.set_cons_zero]
      refine held_one 10 (by kernel_rfl) rfl (by kernel_rfl) (fun K hK => ?_)
      go_simp
      refine (D2.out _).mono ?_
      rintro e w4 ⟨rfl, t⟩
      have L2 := Lib.hid (L1.out.turn t)
      have T4 := Lib.hid t
      refine hK _ _ L2.out ?_
      clear hK K t
      try simp only [Act.put, List.getElem_toArray, List.getElem_cons_succ, List.getElem_cons_zero, List.setIfInBounds_toArray, List.set_cons_succ, List.set_cons_zero]
      refine held_take 11 ?_ rfl (by kernel_rfl) (by kernel_rfl) (by kernel_rfl) (fun _ _ _ h => h) (Or.inl ⟨by kernel_rfl, ?_⟩) L2.out ?_
      rotate_left 1
      · intro u hu; obtain ⟨y1, y2, y3⟩ := hu; have hs := S3.out; go_simp; first | done | with_reducible rfl
      try simp only [Act.put, List.getElem_toArray, List.getElem_cons_succ, List.getElem_cons_zero, List.setIfInBounds_toArray, List.set_cons_succ, List.set_cons_zero]
      refine held_take 12 ?_ rfl (by kernel_rfl) (by kernel_rfl) (by kernel_rfl) (fun _ _ _ h => h) (Or.inl ⟨by kernel_rfl, ?_⟩) L2.out ?_
      rotate_left 1
      · intro u hu; obtain ⟨y1, y2, y3⟩ := hu; have hs := S4.out; go_simp; first | done | with_reducible rfl
      try simp only [Act.put, List.getElem_toArray, List.getElem_cons_succ, List.getElem_cons_zero, List.setIfInBounds_toArray, List.set_cons_succ, List.set_cons_zero]
      refine held_one 16 (by kernel_rfl) rfl (by kernel_rfl) (fun K hK => ?_)
      go_simp
      refine (D3.out _).mono ?_
      rintro e w5 ⟨rfl, t⟩
      have L3 := Lib.hid (L2.out.turn t)
      have T5 := Lib.hid t
      refine hK _ _ L3.out ?_
      clear hK K t
      try simp only [Act.put, List.getElem_toArray, List.getElem_cons_succ, List.getElem_cons_zero, List.setIfInBounds_toArray, List.set_cons_succ, List.set_cons_zero]
      refine held_take 17 ?_ rfl (by kernel_rfl) (by kernel_rfl) (by kernel_rfl) (fun _ _ _ h => h) (Or.inl ⟨by kernel_rfl, ?_⟩) L3.out ?_
      rotate_left 1
      · intro u hu; obtain ⟨y1, y2, y3⟩ := hu; have hs := S5.out; go_simp; first | done | with_reducible rfl
      try simp only [Act.put, List.getElem_toArray, List.getElem_cons_succ, List.getElem_cons_zero, List.setIfInBounds_toArray, List.set_cons_succ, List.set_cons_zero]
      have T15 := Lib.hid (((TD.out.trans T3.out).trans T4.out).trans T5.out)
      obtain ⟨pa1, n1, cap1, w6, hrun, hO⟩ := (OBS.nil T15.out).str H0 28 (by have := Q5.out; simp; omega)
      have HRUN := Lib.hid hrun
      have O6 := Lib.hid hO
      have T6 := Lib.hid hO.low
      have L6 : Hid (BX w.heap.size cx cy cz w6) := Lib.hid (by
        obtain ⟨g0, g1, g2, _, _, _⟩ := cells6 ((hO.low.block _ (heap_lt B1.out) (fun h => h)).trans B1.out)
        exact ⟨g0, g1, g2⟩)
      clear hrun hO
      refine held_one 18 (by kernel_rfl) rfl (by kernel_rfl) (fun K hK => ?_)
      refine oper_append_eq2 _ _ 28 9 rfl _ _ rfl rfl HRUN.out ?_
      refine hK _ _ L6.out ?_
      clear hK K
      try simp only [Act.put, List.getElem_toArray, List.getElem_cons_succ, List.getElem_cons_zero, List.setIfInBounds_toArray, List.set_cons_succ, List.set_cons_zero]
      refine held_one 19 (by kernel_rfl) rfl (by kernel_rfl) (fun K hK => ?_)
      go_simp
      refine hK _ _ L6.out ?_
      clear hK K 
      try simp only [Act.put, List.getElem_toArray, List.getElem_cons_succ, List.getElem_cons_zero, List.setIfInBounds_toArray, List.set_cons_succ, List.set_cons_zero]
      refine wpAnyH_done (by kernel_rfl) ?_ _
      have O6 : Hid (OBS w1 (.slice pa1 n1 cap1) H0 w6) := Lib.hid (by have := O6.out; rw [List.nil_append] at this; exact this)
      clear HRUN L6 L1 L2 L3 LD S1 S2 S3 S4 S5 D1 D2 D3 T15 T3 T4 T5 TD
      cases tw with
      | true =>
        obtain ⟨f0, f1, f2, f3, f4, f5⟩ := cells6 ((T6.out.block _ (heap_lt B1.out) (fun h => h)).trans B1.out)
        obtain ⟨pa2, n2, cap2, w7, hrun2, hO2⟩ := O6.out.str [32, 116, 119, 105, 110] 28 (by have := Q5.out; simp; omega)
        have HR2 := Lib.hid hrun2
        have O7 := Lib.hid hO2
        obtain ⟨pa3, n3, cap3, w8, hrun3, hO3⟩ := O7.out.byte 10 10 rfl 28 (by have := Q5.out; simp; omega)
        have HR3 := Lib.hid hrun3
        have O8 : Hid (OBS w1 (.slice pa3 n3 cap3) (bT s 0) w8) := Lib.hid (by
          have e : bT s 0 = (H0 ++ [32, 116, 119, 105, 110]) ++ [10] := by
            obtain ⟨_, _, _, e4⟩ := HS.out
            rw [bT_zero, ← HH0.out]; unfold headT head0; rw [e4]; simp [wTwin]
          rw [e]; exact hO3)
        have QL : (bT s 0).length ≤ 5000 := by
          obtain ⟨_, _, _, e4⟩ := HS.out
          have e : bT s 0 = (H0 ++ [32, 116, 119, 105, 110]) ++ [10] := by
            rw [bT_zero, ← HH0.out]; unfold headT head0; rw [e4]; simp [wTwin]
          rw [e]; have := Q5.out; simp; omega
        clear hrun2 hO2 hrun3 hO3
        go_wp2_with (at_builtin; first | refine wpList_append_eq2 rfl _ _ 28 9 rfl _ _ rfl rfl HR2.out ?_ | refine wpList_append_eq rfl _ _ 28 rfl _ _ rfl rfl HR3.out ?_)
        clear f0 f1 f2 f3 f4 f5
        have HQL := Lib.hid QL
        clear QL
        go_loopw [5, 6] (fun o i wr => ∃ q : Nat, q % 24 = 0 ∧ q < M.size + 24 ∧ i = .int .i64 q ∧ ∃ pa n cap, o = .slice pa n cap ∧ OBS w1 (.slice pa n cap) (bT s q) wr ∧ (bT s q).length ≤ 5000 + 3 * q) (fun _ i _ => M.size + 24 - (intOf i).toNat)
        case atStart => exact ⟨0, rfl, by omega, rfl, _, _, _, rfl, O8.out, by have := HQL.out; omega⟩
        case round =>
          obtain ⟨q, hq24, hq, rfl, pb, nb, cb, rfl, hO, hL⟩ := hrel
          have OQ := Lib.hid hO
          obtain ⟨f0, f1, f2, f3, f4, f5⟩ := cells6 ((hO.low.block _ (heap_lt B1.out) (fun h => h)).trans B1.out)
          clear hO
          by_cases hqs : q < M.size
          · have hqm : q < s.mod.length := by rw [← HMS.out]; exact hqs
            have hSt := bT_step hq24 hqm
            obtain ⟨c, hc⟩ : ∃ c, (s.mod.drop q).take 24 = c := ⟨_, rfl⟩
            have hcl : c.length ≤ 24 := by rw [← hc]; exact List.length_take_le _ _
            have hcut : M.extract q (min ((q : Int) + 24) (M.size : Int)).toNat = BT c := by
              rw [← hc, ← HM.out]; exact cut24 (by omega)
            rw [hc] at hSt
            have hbl := bytesLine_short hcl
            have hs : ∀ W : World, (Op.stringOp .add ⟨#[98, 121, 116, 101, 115, 32]⟩ (BT (hexL c))).run Tryz.prog W = .ok (.string (BT (bytesLine c))) W := fun W => str_add (a := [98, 121, 116, 101, 115, 32]) rfl (by have := hexL_length c; simp; omega) W
            have HX := Lib.hid (fun W => hex_any (s := c) (by omega) W)
            have HST := Lib.hid hSt
            have HBL := Lib.hid hbl
            have HCL := Lib.hid hcl
            have HQ24 := Lib.hid hq24
            have HLL := Lib.hid hL
            obtain ⟨X, hX⟩ : ∃ X, bytesLine c = X := ⟨_, rfl⟩
            rw [hX] at hs HST HBL
            obtain ⟨Y, hY⟩ : ∃ Y, hexL c = Y := ⟨_, rfl⟩
            rw [hY] at hs HX
            clear hSt hbl hc hqm hcl hq24 hL hX hY
            go_wp2_with fail
            refine (HX.out _).mono ?_
            rintro e w9 ⟨rfl, t9⟩
            obtain ⟨pc, nc, cc, w10, hrun, hO⟩ := (OQ.out.turn t9).str X 28 (by have := HLL.out; have := HBL.out; omega)
            have HR4 := Lib.hid hrun
            have O10 := Lib.hid hO
            obtain ⟨pd, nd, cd, w11, hrun, hO⟩ := O10.out.byte 10 10 rfl 28 (by have := HLL.out; have := HBL.out; simp; omega)
            have HR5 := Lib.hid hrun
            have O11 := Lib.hid hO
            clear hrun hO t9 f0 f1 f2 f3 f4 f5 hcut
            go_wp2_with (at_builtin; first | refine wpList_append_eq2 rfl _ _ 28 9 rfl _ _ rfl rfl HR4.out ?_ | refine wpList_append_eq rfl _ _ 28 rfl _ _ rfl rfl HR5.out ?_)
            go_roundw
            case rel =>
              refine ⟨q + 24, by have := HQ24.out; omega, by omega, by go_num, _, _, _, rfl, ?_, ?_⟩
              · rw [HST.out]; exact O11.out
              · rw [HST.out]; have := HLL.out; have := HBL.out; simp; omega
            case measure => simp [intOf]; omega
          · have hend := bT_end (s := s) (i := q) (by rw [← HMS.out]; omega)
            rw [hend] at OQ hL
            have HL3 : Hid ((tT s 0).length ≤ 220000) := Lib.hid (by have := HM6.out; omega)
            clear hend hL
            go_wp2_with fail
            clear f0 f1 f2 f3 f4 f5
            go_loopw [5, 7] (fun o i wr => ∃ j : Nat, j ≤ N ∧ i = .int .i64 j ∧ ∃ pa n cap, o = .slice pa n cap ∧ OBS w1 (.slice pa n cap) (tT s j) wr ∧ (tT s j).length ≤ 220000 + 2200 * j) (fun _ i _ => N - (intOf i).toNat)
            case atStart => exact ⟨0, by omega, rfl, _, _, _, rfl, OQ.out, by have := HL3.out; omega⟩
            case round =>
              obtain ⟨j, hj, rfl, pe, ne, ce, rfl, hO, hL⟩ := hrel
              have OT := Lib.hid hO
              have HLL := Lib.hid hL
              obtain ⟨f0, f1, f2, f3, f4, f5⟩ := cells6 ((hO.low.block _ (heap_lt B1.out) (fun h => h)).trans B1.out)
              clear hO hL
              by_cases hjn : j < N
              · have hjt : j < s.turns.length := by rw [HN.out]; exact hjn
                have hok := badT_at HB2.out j hjt
                have hSt := tT_step hjt
                have hne : s.turns ≠ [] := by intro e; rw [e] at hjt; simp at hjt
                obtain ⟨tb, tof, cap', hv', hcp, hcell⟩ := HV.out.resolve_left (fun h => hne h.1)
                simp only [Value.slice.injEq] at hv'
                obtain ⟨rfl, hNN, rfl⟩ := hv'
                clear hNN hne
                obtain ⟨t, ht⟩ : ∃ t, s.turns[j] = t := ⟨_, rfl⟩
                have hct := (hcell j hjt).turn OT.out.low
                rw [ht] at hct hok hSt
                obtain ⟨g1, g2, g3⟩ := hct
                have hll := lineT_short hok
                obtain ⟨x1, x2, x3⟩ := t
                simp only at g1 g2 g3
                have HX := Lib.hid (fun W => line_any hok W)
                obtain ⟨X, hX⟩ : ∃ X, lineT ⟨x1, x2, x3⟩ = X := ⟨_, rfl⟩
                rw [hX] at HX hSt hll
                have HST := Lib.hid hSt
                have HLX := Lib.hid hll
                clear hcell ht hok hSt hX hll hjt
                go_wp2_with fail
                refine (HX.out _).mono ?_
                rintro e w9 ⟨rfl, t9⟩
                obtain ⟨pc, nc, cc, w10, hrun, hO⟩ := (OT.out.turn t9).str X 28 (by have := HLL.out; have := HLX.out; omega)
                have HR4 := Lib.hid hrun
                have O10 := Lib.hid hO
                obtain ⟨pd, nd, cd, w11, hrun, hO⟩ := O10.out.byte 10 10 rfl 28 (by have := HLL.out; have := HLX.out; simp; omega)
                have HR5 := Lib.hid hrun
                have O11 := Lib.hid hO
                clear hrun hO t9 f0 f1 f2 f3 f4 f5 g1 g2 g3
                go_wp2_with (at_builtin; first | refine wpList_append_eq2 rfl _ _ 28 9 rfl _ _ rfl rfl HR4.out ?_ | refine wpList_append_eq rfl _ _ 28 rfl _ _ rfl rfl HR5.out ?_)
                go_roundw
                case rel =>
                  refine ⟨j + 1, by omega, by go_num, _, _, _, rfl, ?_, ?_⟩
                  · rw [HST.out]; exact O11.out
                  · rw [HST.out]; have := HLL.out; have := HLX.out; simp; omega
                case measure => simp [intOf]; omega
              · have hjN : j = s.turns.length := by rw [HN.out]; omega
                have hcv := OT.out.conv
                rw [hjN, tT_end] at hcv
                obtain ⟨Z, hZ⟩ : ∃ Z, textT s = Z := ⟨_, rfl⟩
                rw [hZ] at hcv HR
                clear hZ hjN
                go_wp2_with fail
                go_ret2
                exact ⟨by rw [HR.out]; rfl, T1.out.trans OT.out.low⟩
      | false =>
        obtain ⟨f0, f1, f2, f3, f4, f5⟩ := cells6 ((T6.out.block _ (heap_lt B1.out) (fun h => h)).trans B1.out)
        obtain ⟨pa3, n3, cap3, w8, hrun3, hO3⟩ := O6.out.byte 10 10 rfl 28 (by have := Q5.out; omega)
        have HR3 := Lib.hid hrun3
        have O8 : Hid (OBS w1 (.slice pa3 n3 cap3) (bT s 0) w8) := Lib.hid (by
          have e : bT s 0 = H0 ++ [10] := by
            obtain ⟨_, _, _, e4⟩ := HS.out
            rw [bT_zero, ← HH0.out]; unfold headT head0; rw [e4]; simp
          rw [e]; exact hO3)
        have QL : (bT s 0).length ≤ 5000 := by
          obtain ⟨_, _, _, e4⟩ := HS.out
          have e : bT s 0 = H0 ++ [10] := by
            rw [bT_zero, ← HH0.out]; unfold headT head0; rw [e4]; simp
          rw [e]; have := Q5.out; simp; omega
        clear hrun3 hO3
        go_wp2_with (at_builtin; refine wpList_append_eq rfl _ _ 28 rfl _ _ rfl rfl HR3.out ?_)
        clear f0 f1 f2 f3 f4 f5
        have HQL := Lib.hid QL
        clear QL
        go_loopw [5, 6] (fun o i wr => ∃ q : Nat, q % 24 = 0 ∧ q < M.size + 24 ∧ i = .int .i64 q ∧ ∃ pa n cap, o = .slice pa n cap ∧ OBS w1 (.slice pa n cap) (bT s q) wr ∧ (bT s q).length ≤ 5000 + 3 * q) (fun _ i _ => M.size + 24 - (intOf i).toNat)
        case atStart => exact ⟨0, rfl, by omega, rfl, _, _, _, rfl, O8.out, by have := HQL.out; omega⟩
        case round =>
          obtain ⟨q, hq24, hq, rfl, pb, nb, cb, rfl, hO, hL⟩ := hrel
          have OQ := Lib.hid hO
          obtain ⟨f0, f1, f2, f3, f4, f5⟩ := cells6 ((hO.low.block _ (heap_lt B1.out) (fun h => h)).trans B1.out)
          clear hO
          by_cases hqs : q < M.size
          · have hqm : q < s.mod.length := by rw [← HMS.out]; exact hqs
            have hSt := bT_step hq24 hqm
            obtain ⟨c, hc⟩ : ∃ c, (s.mod.drop q).take 24 = c := ⟨_, rfl⟩
            have hcl : c.length ≤ 24 := by rw [← hc]; exact List.length_take_le _ _
            have hcut : M.extract q (min ((q : Int) + 24) (M.size : Int)).toNat = BT c := by
              rw [← hc, ← HM.out]; exact cut24 (by omega)
            rw [hc] at hSt
            have hbl := bytesLine_short hcl
            have hs : ∀ W : World, (Op.stringOp .add ⟨#[98, 121, 116, 101, 115, 32]⟩ (BT (hexL c))).run Tryz.prog W = .ok (.string (BT (bytesLine c))) W := fun W => str_add (a := [98, 121, 116, 101, 115, 32]) rfl (by have := hexL_length c; simp; omega) W
            have HX := Lib.hid (fun W => hex_any (s := c) (by omega) W)
            have HST := Lib.hid hSt
            have HBL := Lib.hid hbl
            have HCL := Lib.hid hcl
            have HQ24 := Lib.hid hq24
            have HLL := Lib.hid hL
            obtain ⟨X, hX⟩ : ∃ X, bytesLine c = X := ⟨_, rfl⟩
            rw [hX] at hs HST HBL
            obtain ⟨Y, hY⟩ : ∃ Y, hexL c = Y := ⟨_, rfl⟩
            rw [hY] at hs HX
            clear hSt hbl hc hqm hcl hq24 hL hX hY
            go_wp2_with fail
            refine (HX.out _).mono ?_
            rintro e w9 ⟨rfl, t9⟩
            obtain ⟨pc, nc, cc, w10, hrun, hO⟩ := (OQ.out.turn t9).str X 28 (by have := HLL.out; have := HBL.out; omega)
            have HR4 := Lib.hid hrun
            have O10 := Lib.hid hO
            obtain ⟨pd, nd, cd, w11, hrun, hO⟩ := O10.out.byte 10 10 rfl 28 (by have := HLL.out; have := HBL.out; simp; omega)
            have HR5 := Lib.hid hrun
            have O11 := Lib.hid hO
            clear hrun hO t9 f0 f1 f2 f3 f4 f5 hcut
            go_wp2_with (at_builtin; first | refine wpList_append_eq2 rfl _ _ 28 9 rfl _ _ rfl rfl HR4.out ?_ | refine wpList_append_eq rfl _ _ 28 rfl _ _ rfl rfl HR5.out ?_)
            go_roundw
            case rel =>
              refine ⟨q + 24, by have := HQ24.out; omega, by omega, by go_num, _, _, _, rfl, ?_, ?_⟩
              · rw [HST.out]; exact O11.out
              · rw [HST.out]; have := HLL.out; have := HBL.out; simp; omega
            case measure => simp [intOf]; omega
          · have hend := bT_end (s := s) (i := q) (by rw [← HMS.out]; omega)
            rw [hend] at OQ hL
            have HL3 : Hid ((tT s 0).length ≤ 220000) := Lib.hid (by have := HM6.out; omega)
            clear hend hL
            go_wp2_with fail
            clear f0 f1 f2 f3 f4 f5
            go_loopw [5, 7] (fun o i wr => ∃ j : Nat, j ≤ N ∧ i = .int .i64 j ∧ ∃ pa n cap, o = .slice pa n cap ∧ OBS w1 (.slice pa n cap) (tT s j) wr ∧ (tT s j).length ≤ 220000 + 2200 * j) (fun _ i _ => N - (intOf i).toNat)
            case atStart => exact ⟨0, by omega, rfl, _, _, _, rfl, OQ.out, by have := HL3.out; omega⟩
            case round =>
              obtain ⟨j, hj, rfl, pe, ne, ce, rfl, hO, hL⟩ := hrel
              have OT := Lib.hid hO
              have HLL := Lib.hid hL
              obtain ⟨f0, f1, f2, f3, f4, f5⟩ := cells6 ((hO.low.block _ (heap_lt B1.out) (fun h => h)).trans B1.out)
              clear hO hL
              by_cases hjn : j < N
              · have hjt : j < s.turns.length := by rw [HN.out]; exact hjn
                have hok := badT_at HB2.out j hjt
                have hSt := tT_step hjt
                have hne : s.turns ≠ [] := by intro e; rw [e] at hjt; simp at hjt
                obtain ⟨tb, tof, cap', hv', hcp, hcell⟩ := HV.out.resolve_left (fun h => hne h.1)
                simp only [Value.slice.injEq] at hv'
                obtain ⟨rfl, hNN, rfl⟩ := hv'
                clear hNN hne
                obtain ⟨t, ht⟩ : ∃ t, s.turns[j] = t := ⟨_, rfl⟩
                have hct := (hcell j hjt).turn OT.out.low
                rw [ht] at hct hok hSt
                obtain ⟨g1, g2, g3⟩ := hct
                have hll := lineT_short hok
                obtain ⟨x1, x2, x3⟩ := t
                simp only at g1 g2 g3
                have HX := Lib.hid (fun W => line_any hok W)
                obtain ⟨X, hX⟩ : ∃ X, lineT ⟨x1, x2, x3⟩ = X := ⟨_, rfl⟩
                rw [hX] at HX hSt hll
                have HST := Lib.hid hSt
                have HLX := Lib.hid hll
                clear hcell ht hok hSt hX hll hjt
                go_wp2_with fail
                refine (HX.out _).mono ?_
                rintro e w9 ⟨rfl, t9⟩
                obtain ⟨pc, nc, cc, w10, hrun, hO⟩ := (OT.out.turn t9).str X 28 (by have := HLL.out; have := HLX.out; omega)
                have HR4 := Lib.hid hrun
                have O10 := Lib.hid hO
                obtain ⟨pd, nd, cd, w11, hrun, hO⟩ := O10.out.byte 10 10 rfl 28 (by have := HLL.out; have := HLX.out; simp; omega)
                have HR5 := Lib.hid hrun
                have O11 := Lib.hid hO
                clear hrun hO t9 f0 f1 f2 f3 f4 f5 g1 g2 g3
                go_wp2_with (at_builtin; first | refine wpList_append_eq2 rfl _ _ 28 9 rfl _ _ rfl rfl HR4.out ?_ | refine wpList_append_eq rfl _ _ 28 rfl _ _ rfl rfl HR5.out ?_)
                go_roundw
                case rel =>
                  refine ⟨j + 1, by omega, by go_num, _, _, _, rfl, ?_, ?_⟩
                  · rw [HST.out]; exact O11.out
                  · rw [HST.out]; have := HLL.out; have := HLX.out; simp; omega
                case measure => simp [intOf]; omega
              · have hjN : j = s.turns.length := by rw [HN.out]; omega
                have hcv := OT.out.conv
                rw [hjN, tT_end] at hcv
                obtain ⟨Z, hZ⟩ : ∃ Z, textT s = Z := ⟨_, rfl⟩
                rw [hZ] at hcv HR
                clear hZ hjN
                go_wp2_with fail
                go_ret2
                exact ⟨by rw [HR.out]; rfl, T1.out.trans OT.out.low⟩
end Go.Proofs.YtjnllclpdllceaaGreatDoor
