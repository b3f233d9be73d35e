/- The program's walks: Text. Printed by gen_xb.py. The program's walks: Parse, how it is left. Printed by gen_xd.py. The program's walks: Text of an event that is in the rows. Printed by gen_xb.py. -/
import Derived.Test.YtpbjblbeepbklaaGreatDoorKm
namespace Go.Proofs.YtpbjblbeepbklaaGreatDoor
set_option linter.unusedSimpArgs false
set_option linter.unusedVariables false
section
open Go.RowKit Go.Shelf

set_option maxRecDepth 100000 in
set_option maxHeartbeats 40000000 in
theorem text_idle {E : EventD} (hs : ESmall E) (hk : E.kind = 0) {w : World} (hw : Laid w) : Calls Tryz.prog 21 #[.agg (evC E)] w (TextP w E) := by
  obtain ⟨W, n, O⟩ := open_ex w E
  have HD := Lib.hid O.door
  have HI := fun w (h : Laid w) => Lib.hid (itoa_any hs.ints.slot h)
  have HW := Lib.hid hw
  have HNO := fun (h : E ≠ slotE E.slot) W' (t : Turn Nn w W') => textP_none (w := w) (E := E) (W := W') (by unfold textD; rw [if_pos hk, if_neg h]) t
  have HYES := fun (h : E = slotE E.slot) W' (t : Turn Nn w W') => textP_some (w := w) (E := E) (W := W') (s := Lib.itoa E.slot ++ tIdle) (by unfold textD; rw [if_pos hk, if_pos h]) t
  obtain ⟨w0, w1, w2, w3, hn, e0, s0, e1, s1, e2, s2, e3, c3, z3, e4⟩ := O.ex
  obtain ⟨y0, y1, y2, y3, y4, y5, y6, y7, y8⟩ := evCells O.ev
  have heq : ∀ W, (binOp BinOp.eql 34 (.agg #[.int .i64 E.kind, .int .i64 E.slot, .string (BT E.actor), .int .i64 E.pc, .string (BT E.chan), .int .i64 E.side, .int .i64 E.tag, .int .i64 E.word, .string (BT E.name)]) (.agg #[.int .i64 0, .int .i64 E.slot, .string ⟨#[]⟩, .int .i64 0, .string ⟨#[]⟩, .int .i64 0, .int .i64 0, .int .i64 0, .string ⟨#[]⟩])).run Tryz.prog W = .ok (.bool (decide (E = slotE E.slot))) W := fun W => ev_eql E (slotE E.slot) W
  have hcat : ∀ W, (Op.stringOp .add (BT (Lib.itoa E.slot)) ⟨#[32, 105, 100, 108, 101]⟩).run Tryz.prog W = .ok (.string (BT (Lib.itoa E.slot ++ tIdle))) W := fun W => cat_run (b := tIdle) (by have := itoa_len hs.ints.slot; simp [tIdle, wIdle]; omega) W
  have hmf : ∀ (fn : Fn) (first cap : Array Value) (w : World), (Instr.makeFunc fn first cap).run Tryz.prog w = .ok (.func fn first cap) w := fun _ _ _ _ => rfl
  obtain ⟨Pq, hP⟩ : ∃ Pq, TextP w E = Pq := ⟨_, rfl⟩
  rw [hP] at HNO HYES ⊢
  obtain ⟨d, hd⟩ : ∃ d, decide (E = slotE E.slot) = d := ⟨_, rfl⟩
  have HDD := Lib.hid hd
  simp only [hd] at heq
  unfold evC
  rw [hk] at heq y0 e0 ⊢
  obtain ⟨I, hI⟩ : ∃ I, BT (Lib.itoa E.slot) = I := ⟨_, rfl⟩
  obtain ⟨X, hX⟩ : ∃ X, BT (Lib.itoa E.slot ++ tIdle) = X := ⟨_, rfl⟩
  simp only [hX] at HYES hcat
  simp only [hI] at HI hcat
  clear O hw hP hd hI hX hk hs
  cases d with
  | false =>
    go_enter_defers Tryz.func21, Tryz.ntmps21
    go_wp2_with fail
    refine (need_no _).mono ?_
    rintro e wn ⟨rfl, rfl⟩
    exact door_bad HD.out rfl rfl (fun W' t => HNO (of_decide_eq_false HDD.out) W' t)
  | true =>
    go_enter_defers Tryz.func21, Tryz.ntmps21
    go_wp2_with fail
    refine (need_yes _).mono ?_
    rintro e wn ⟨rfl, rfl⟩
    go_wp2_with fail
    refine (HI _ (HW.out.turn HD.out.low)).out.mono ?_
    rintro e w5 ⟨rfl, t5⟩
    have D5 := Lib.hid (HD.out.turn t5)
    obtain ⟨q1, q2, q3, q4⟩ := D5.out.cells X
    have D6 := Lib.hid (D5.out.set X)
    clear t5 y0 y1 y2 y3 y4 y5 y6 y7 y8 e0 e1 e2 e3 e4 c3 z3 heq
    go_wp2_with fail
    exact door_ok D6.out rfl rfl (HYES (of_decide_eq_true HDD.out) _ D6.out.low)
end
section
open Go.RowKit Go.Shelf

def parseC (s : Bs) : EventD × Int := match parseD s with
  | some E => (E, 0)
  | none => (zeroE, 5)
def ParseP (w : World) (s : Bs) (e : Ending) (w' : World) : Prop := e = .returned (.tuple #[.agg (evC (parseC s).1), .int .i64 (parseC s).2]) ∧ Turn Nn w w'
theorem parseP_none {w W : World} {s : Bs} (h : parseD s = none) (t : Turn Nn w W) : ParseP w s (.returned (.tuple #[.agg (evC zeroE), .int .i64 5])) W := by
  refine ⟨?_, t⟩
  unfold parseC
  rw [h]
theorem parseP_some {w W : World} {s : Bs} {E : EventD} (h : parseD s = some E) (t : Turn Nn w W) : ParseP w s (.returned (.tuple #[.agg (evC E), .int .i64 0])) W := by
  refine ⟨?_, t⟩
  unfold parseC
  rw [h]
theorem res24 {tmps : Array Value} {k : Nat} {v : Value} (h2 : k ≠ 2) (h3 : k ≠ 3) : results Tryz.f24 (tmps.setIfInBounds k v) = results Tryz.f24 tmps := by
  have e2 : (tmps.setIfInBounds k v)[2]? = tmps[2]? := by rw [Array.getElem?_setIfInBounds, if_neg h2]
  have e3 : (tmps.setIfInBounds k v)[3]? = tmps[3]? := by rw [Array.getElem?_setIfInBounds, if_neg h3]
  simp only [results, show Tryz.f24.results = #[.cell 2 34, .cell 3 37] from rfl]
  simp [e2, e3]
theorem put24 {R : Ending → World → Prop} {c : List PanicEntry} {a : Act} {k : Nat} {v : Value} {w : World} (h2 : k ≠ 2) (h3 : k ≠ 3) (h : bodyPostD Tryz.prog Tryz.f24 R (.panic c) (a.put (some k) v) w) : bodyPostD Tryz.prog Tryz.f24 R (.panic c) a w :=
  leaves_congr (res24 h2 h3) _ _ _ h
theorem res_parse {W : World} {eb cb : Nat} {E : EventD} {y : Int} {tmps : Array Value} (t2 : tmps[2]?.getD undef = .pointer (some ⟨eb, 0, none⟩)) (t3 : tmps[3]?.getD undef = .pointer (some ⟨cb, 0, none⟩)) (h1 : EvAt W eb E) (h2 : W.heap[cb]? = some (.cells #[.int .i64 y] 37)) :
    (results Tryz.f24 tmps).run Tryz.prog W = .ok (.tuple #[.agg (evC E), .int .i64 y]) W := by
  obtain ⟨y0, y1, y2, y3, y4, y5, y6, y7, y8⟩ := evCells h1
  have c2 : W.cell? ⟨cb, 0, none⟩ = some (.int .i64 y) := cell_blk h2
  simp only [results, show Tryz.f24.results = #[.cell 2 34, .cell 3 37] from rfl]
  unfold evC
  go_simp
theorem parseD_off {b0 b1 b2 : Nat} {u : FrameMode} {w : World} (h0 : w.heap[b0]? = some (.cells #[.bool false] 4)) :
    CallsD Tryz.prog 49 #[.pointer (some ⟨b0, 0, none⟩), .pointer (some ⟨b1, 0, none⟩), .pointer (some ⟨b2, 0, none⟩)] u w fun e u' w' => u' = u ∧ (e = .returned (.tuple #[]) ∧ w' = w) := by
  have c0 : w.cell? ⟨b0, 0, none⟩ = some (.bool false) := cell_blk h0
  clear h0
  go_enter_d Tryz.func49, Tryz.ntmps49
  go_wp2_with fail
  go_end0
  exact ⟨rfl, rfl⟩
theorem parseD_on {b0 b1 b2 : Nat} {u : FrameMode} {w : World} {E : EventD} {c : Int} (h0 : w.heap[b0]? = some (.cells #[.bool true] 4)) (h1 : EvAt w b1 E) (h2 : w.heap[b2]? = some (.cells #[.int .i64 c] 37)) (hne : b1 ≠ b2) :
    CallsD Tryz.prog 49 #[.pointer (some ⟨b0, 0, none⟩), .pointer (some ⟨b1, 0, none⟩), .pointer (some ⟨b2, 0, none⟩)] u w fun e u' w' => u' = u ∧ (e = .returned (.tuple #[]) ∧ w' = (set9 w b1 zeroE).setCell ⟨b2, 0, none⟩ (.int .i64 5)) := by
  have c0 : w.cell? ⟨b0, 0, none⟩ = some (.bool true) := cell_blk h0
  obtain ⟨y0, y1, y2, y3, y4, y5, y6, y7, y8⟩ := evCells h1
  obtain ⟨z0, z1, z2, z3, z4, z5, z6, z7, z8⟩ := evFree h1
  have h2' : (set9 w b1 zeroE).heap[b2]? = some (.cells #[.int .i64 c] 37) := set9_blk h2 (fun e => hne e.symm)
  obtain ⟨w9, hw9⟩ : ∃ w9, set9 w b1 zeroE = w9 := ⟨_, rfl⟩
  rw [hw9] at h2' ⊢
  have hw9' : (((((((((w.setCell ⟨b1, 0, none⟩ (.int .i64 0)).setCell ⟨b1, 1, none⟩ (.int .i64 0)).setCell ⟨b1, 2, none⟩ (.string ⟨#[]⟩)).setCell ⟨b1, 3, none⟩ (.int .i64 0)).setCell ⟨b1, 4, none⟩ (.string ⟨#[]⟩)).setCell ⟨b1, 5, none⟩ (.int .i64 0)).setCell ⟨b1, 6, none⟩ (.int .i64 0)).setCell ⟨b1, 7, none⟩ (.int .i64 0)).setCell ⟨b1, 8, none⟩ (.string ⟨#[]⟩)) = w9 := hw9
  have c2 : w9.cell? ⟨b2, 0, none⟩ = some (.int .i64 c) := cell_blk h2'
  have z9 := frozen_blk (o := 0) h2'
  clear h0 h1 h2 h2' hw9
  go_enter_d Tryz.func49, Tryz.ntmps49
  go_wp2_with fail
  go_end0
  exact ⟨rfl, rfl⟩
def defsP (bb eb cb : Nat) : List Deferred := [{ target := .fn (.func 40) #[], args := #[.pointer (some ⟨bb, 0, none⟩)] }, { target := .fn (.func 49) #[.pointer (some ⟨bb, 0, none⟩), .pointer (some ⟨eb, 0, none⟩), .pointer (some ⟨cb, 0, none⟩)], args := #[] }]
structure DoorP (w W : World) (bb eb cb : Nat) (E : EventD) (y : Int) : Prop where
  h0 : W.heap[bb]? = some (.cells #[.bool false] 4)
  h1 : EvAt W eb E
  h2 : W.heap[cb]? = some (.cells #[.int .i64 y] 37)
  low : Turn Nn w W
  g0 : w.heap.size ≤ bb
  g1 : w.heap.size ≤ eb
  g2 : w.heap.size ≤ cb
  n01 : bb ≠ eb
  n02 : bb ≠ cb
  n12 : eb ≠ cb
theorem DoorP.turn {w W W' : World} {bb eb cb : Nat} {E : EventD} {y : Int} (D : DoorP w W bb eb cb E y) (t : Turn Nn W W') : DoorP w W' bb eb cb E y :=
  ⟨(t.block _ (heap_lt D.h0) (fun h => h)).trans D.h0, D.h1.turn t, (t.block _ (heap_lt D.h2) (fun h => h)).trans D.h2, D.low.trans t, D.g0, D.g1, D.g2, D.n01, D.n02, D.n12⟩
/-- Both results are laid. -/
theorem DoorP.set {w W : World} {bb eb cb : Nat} {E : EventD} {y : Int} (D : DoorP w W bb eb cb E y) (E' : EventD) (y' : Int) : DoorP w ((set9 W eb E').setCell ⟨cb, 0, none⟩ (.int .i64 y')) bb eb cb E' y' := by
  have k0 : (set9 W eb E').heap[bb]? = some (.cells #[.bool false] 4) := set9_blk D.h0 D.n01
  have k2 : (set9 W eb E').heap[cb]? = some (.cells #[.int .i64 y] 37) := set9_blk D.h2 (fun e => D.n12 e.symm)
  have t := D.low.off (set9_turn (B := eb) E') D.g1
  exact ⟨blk_set k0 D.n02, blk_set (set9_at D.h1 E') D.n12, heap_setCell_at k2 0 _, t.setCell (p := ⟨cb, 0, none⟩) (.inr D.g2) _, D.g0, D.g1, D.g2, D.n01, D.n02, D.n12⟩
theorem doorP_bad {w W : World} {bb eb cb : Nat} {E : EventD} {y : Int} {tmps : Array Value} (D : DoorP w W bb eb cb E y) (t2 : tmps[2]?.getD undef = .pointer (some ⟨eb, 0, none⟩)) (t3 : tmps[3]?.getD undef = .pointer (some ⟨cb, 0, none⟩)) {R : Ending → World → Prop} (hR : ∀ W', Turn Nn w W' → R (.returned (.tuple #[.agg (evC zeroE), .int .i64 5])) W') :
    Leaves Tryz.prog Tryz.f24 tmps R (defsP bb eb cb) (.panicking wrongC) W := by
  refine leaves_cons (f := 40) (args := #[.pointer (some ⟨bb, 0, none⟩)]) (by simp) (by simp [go_sem]) ?_
  refine (caught_yes D.h0).mono ?_
  rintro e u' w1 ⟨rfl, rfl, rfl⟩
  have t1 : Turn Nn W (W.alloc (.cells #[] 90)) := (Turn.refl Nn W).alloc _
  have D1 := D.turn t1
  generalize hV : W.alloc (.cells #[] 90) = V at D1 ⊢
  have k0 : (V.setCell ⟨bb, 0, none⟩ (.bool true)).heap[bb]? = some (.cells #[.bool true] 4) := heap_setCell_at D1.h0 0 _
  have k1 : EvAt (V.setCell ⟨bb, 0, none⟩ (.bool true)) eb E := blk_set D1.h1 (fun e => D.n01 e.symm)
  have k2 : (V.setCell ⟨bb, 0, none⟩ (.bool true)).heap[cb]? = some (.cells #[.int .i64 y] 37) := blk_set D1.h2 (fun e => D.n02 e.symm)
  have k3 : Turn Nn w (V.setCell ⟨bb, 0, none⟩ (.bool true)) := D1.low.setCell (p := ⟨bb, 0, none⟩) (.inr D.g0) _
  generalize hV2 : V.setCell ⟨bb, 0, none⟩ (.bool true) = V2 at k0 k1 k2 k3 ⊢
  show Leaves Tryz.prog Tryz.f24 tmps R _ .returning V2
  refine leaves_cons (f := 49) (args := #[.pointer (some ⟨bb, 0, none⟩), .pointer (some ⟨eb, 0, none⟩), .pointer (some ⟨cb, 0, none⟩)]) (by simp) (by simp [go_sem]) ?_
  refine (parseD_on k0 k1 k2 D.n12).mono ?_
  rintro e u' w1 ⟨rfl, rfl, rfl⟩
  have m2 : (set9 V2 eb zeroE).heap[cb]? = some (.cells #[.int .i64 y] 37) := set9_blk k2 (fun e => D.n12 e.symm)
  have t := k3.off (set9_turn (B := eb) zeroE) D.g1
  exact ⟨_, res_parse t2 t3 (blk_set (set9_at k1 zeroE) D.n12) (heap_setCell_at m2 0 _), hR _ (t.setCell (p := ⟨cb, 0, none⟩) (.inr D.g2) _)⟩
theorem doorP_ok {w W : World} {bb eb cb : Nat} {E : EventD} {y : Int} {tmps : Array Value} (D : DoorP w W bb eb cb E y) (t2 : tmps[2]?.getD undef = .pointer (some ⟨eb, 0, none⟩)) (t3 : tmps[3]?.getD undef = .pointer (some ⟨cb, 0, none⟩)) {R : Ending → World → Prop} (hR : R (.returned (.tuple #[.agg (evC E), .int .i64 y])) W) :
    Leaves Tryz.prog Tryz.f24 tmps R (defsP bb eb cb) .returning W := by
  refine leaves_cons (f := 40) (args := #[.pointer (some ⟨bb, 0, none⟩)]) (by simp) (by simp [go_sem]) ?_
  refine (caught_no _ _).mono ?_
  rintro e u' w1 ⟨rfl, rfl, rfl⟩
  show Leaves Tryz.prog Tryz.f24 tmps R _ .returning w1
  refine leaves_cons (f := 49) (args := #[.pointer (some ⟨bb, 0, none⟩), .pointer (some ⟨eb, 0, none⟩), .pointer (some ⟨cb, 0, none⟩)]) (by simp) (by simp [go_sem]) ?_
  refine (parseD_off D.h0).mono ?_
  rintro e u' w1 ⟨rfl, rfl, rfl⟩
  exact ⟨_, res_parse t2 t3 D.h1 D.h2, hR⟩
/-- The world in which Parse begins. -/
structure OpenP (w W : World) (n : Nat) : Prop where
  ex : ∃ w0 w1 w2, w.heap.size = n ∧ w.alloc (.cells #[.int .i64 0, .int .i64 0, .string ⟨#[]⟩, .int .i64 0, .string ⟨#[]⟩, .int .i64 0, .int .i64 0, .int .i64 0, .string ⟨#[]⟩] 34) = w0 ∧ w0.heap.size = n + 1 ∧ w0.alloc (.cells #[.int .i64 0] 37) = w1 ∧ w1.heap.size = n + 2 ∧ w1.alloc (.cells #[.bool false] 4) = w2 ∧ w2.cell? ⟨n + 2, 0, none⟩ = some (.bool false) ∧ w2.frozen? ⟨n + 2, 0, none⟩ = false ∧ w2.setCell ⟨n + 2, 0, none⟩ (.bool false) = W
  door : DoorP w W (n + 2) n (n + 1) zeroE 0
theorem openP_ex (w : World) : ∃ W n, OpenP w W n := by
  obtain ⟨w0, e0⟩ : ∃ w0, w.alloc (.cells (evC zeroE) 34) = w0 := ⟨_, rfl⟩
  obtain ⟨w1, e1⟩ : ∃ w1, w0.alloc (.cells #[.int .i64 0] 37) = w1 := ⟨_, rfl⟩
  obtain ⟨w2, e2⟩ : ∃ w2, w1.alloc (.cells #[.bool false] 4) = w2 := ⟨_, rfl⟩
  obtain ⟨b0, t0⟩ := alloc1 e0
  obtain ⟨b1, t1⟩ := alloc1 e1
  obtain ⟨b2, t2⟩ := alloc1 e2
  have s0 : w0.heap.size = w.heap.size + 1 := by rw [← e0, World.size_alloc]
  have s1 : w1.heap.size = w.heap.size + 2 := by rw [← e1, World.size_alloc, s0]
  obtain ⟨n, hn⟩ : ∃ n, w.heap.size = n := ⟨_, rfl⟩
  rw [hn] at b0 s0 s1
  rw [s0] at b1
  rw [s1] at b2
  have c2 : w2.cell? ⟨n + 2, 0, none⟩ = some (.bool false) := cell_blk b2
  have z2 : w2.frozen? ⟨n + 2, 0, none⟩ = false := frozen_blk (o := 0) b2
  have tt := (t0.trans t1).trans t2
  obtain ⟨W, e4⟩ : ∃ W, w2.setCell ⟨n + 2, 0, none⟩ (.bool false) = W := ⟨_, rfl⟩
  have k2 : W.heap[n + 2]? = some (.cells #[.bool false] 4) := by rw [← e4]; exact heap_setCell_at b2 0 _
  have k1 : W.heap[n + 1]? = some (.cells #[.int .i64 0] 37) := by rw [← e4]; exact blk_set ((t2.block _ (heap_lt b1) (fun h => h)).trans b1) (by omega)
  have k0 : EvAt W n zeroE := by rw [← e4]; exact blk_set (((t1.trans t2).block _ (heap_lt b0) (fun h => h)).trans b0) (by omega)
  refine ⟨W, n, ⟨w0, w1, w2, hn, e0, s0, e1, s1, e2, c2, z2, e4⟩, ⟨k2, k0, k1, ?_, by omega, by omega, by omega, by omega, by omega, by omega⟩⟩
  rw [← e4]
  exact tt.setCell (p := ⟨n + 2, 0, none⟩) (.inr (by show w.heap.size ≤ n + 2; omega)) _
theorem cutIdle_yes {s t : Bs} (h : cutIdle s = some t) : s = t ++ tIdle := by
  unfold cutIdle at h
  split at h
  · rename_i e
    cases h
    conv => lhs; rw [← List.take_append_drop (s.length - 5) s, e]
  · cases h
theorem cutIdle_no {s : Bs} (h : cutIdle s = none) : ∀ a, s ≠ a ++ tIdle := by
  intro a e
  unfold cutIdle at h
  subst e
  rw [if_pos (by simp [tIdle, wIdle])] at h
  cases h
set_option maxRecDepth 100000 in
set_option maxHeartbeats 40000000 in
theorem parse_idle {s t : Bs} (hl : s.length ≤ 4000000) (hc : cutIdle s = some t) {w : World} (hw : Laid w) : Calls Tryz.prog 24 #[.string (BT s)] w (ParseP w s) := by
  obtain ⟨W, n, O⟩ := openP_ex w
  have HD := Lib.hid O.door
  have HW := Lib.hid hw
  have hst := cutIdle_yes hc
  have HCS := fun w => Lib.hid (show Calls Tryz.prog 27 #[.string (BT s), .string ⟨#[32, 105, 100, 108, 101]⟩] w _ from cutSuf_yes (t := tIdle) hst hl w)
  have HWH := fun w (h : Laid w) => Lib.hid (whole_any (s := t) (by rw [hst] at hl; simp at hl; omega) h)
  have hpd : parseD s = (wholeL t).map slotE := by unfold parseD; rw [hc]
  have HNO := fun (h : parseD s = none) W' (t : Turn Nn w W') => parseP_none (w := w) (W := W') h t
  have HYES := fun E (h : parseD s = some E) W' (t : Turn Nn w W') => parseP_some (w := w) (E := E) (W := W') h t
  rw [hpd] at HNO HYES
  obtain ⟨w0, w1, w2, hn, e0, s0, e1, s1, e2, c2, z2, e4⟩ := O.ex
  have hmf : ∀ (fn : Fn) (first cap : Array Value) (w : World), (Instr.makeFunc fn first cap).run Tryz.prog w = .ok (.func fn first cap) w := fun _ _ _ _ => rfl
  obtain ⟨Pq, hP⟩ : ∃ Pq, ParseP w s = Pq := ⟨_, rfl⟩
  rw [hP] at HNO HYES ⊢
  obtain ⟨S, hS⟩ : ∃ S, BT s = S := ⟨_, rfl⟩
  rw [hS] at HCS ⊢
  obtain ⟨T, hT⟩ : ∃ T, BT t = T := ⟨_, rfl⟩
  rw [hT] at HCS HWH
  clear O hw hP hS hT hst hl hpd hc
  go_enter_defers Tryz.func24, Tryz.ntmps24
  go_wp2_with fail
  refine (HCS _).out.mono ?_
  rintro e wn ⟨rfl, rfl⟩
  have T1 := Lib.hid HD.out.low
  clear e0 e1 e2 e4 c2 z2 hmf HCS
  cases hx : wholeL t with
  | none =>
    rw [hx] at HNO HYES
    simp only [hx] at HWH
    clear hx
    go_wp2_with fail
    refine (HWH _ (HW.out.turn T1.out)).out.mono ?_
    rintro e w5 ⟨he, t5⟩
    obtain rfl : e = badE := he
    exact doorP_bad (HD.out.turn t5) rfl rfl (HNO rfl)
  | some m =>
    rw [hx] at HNO HYES
    simp only [hx] at HWH
    clear hx
    go_wp2_with fail
    refine (HWH _ (HW.out.turn T1.out)).out.mono ?_
    rintro e w5 ⟨he, t5⟩
    obtain rfl : e = .returned (.int .i64 m) := he
    have D5 := Lib.hid (HD.out.turn t5)
    obtain ⟨y0, y1, y2, y3, y4, y5, y6, y7, y8⟩ := evCells D5.out.h1
    obtain ⟨z0, z1, z2, z3, z4, z5, z6, z7, z8⟩ := evFree D5.out.h1
    have D6 := Lib.hid (D5.out.set (slotE m) 0)
    have h2' : (set9 w5 n (slotE m)).heap[n + 1]? = some (.cells #[.int .i64 0] 37) := set9_blk D5.out.h2 (fun e => D5.out.n12 e.symm)
    obtain ⟨w9, hw9⟩ : ∃ w9, set9 w5 n (slotE m) = w9 := ⟨_, rfl⟩
    rw [hw9] at h2' D6
    have hw9' : (((((((((w5.setCell ⟨n, 0, none⟩ (.int .i64 0)).setCell ⟨n, 1, none⟩ (.int .i64 m)).setCell ⟨n, 2, none⟩ (.string ⟨#[]⟩)).setCell ⟨n, 3, none⟩ (.int .i64 0)).setCell ⟨n, 4, none⟩ (.string ⟨#[]⟩)).setCell ⟨n, 5, none⟩ (.int .i64 0)).setCell ⟨n, 6, none⟩ (.int .i64 0)).setCell ⟨n, 7, none⟩ (.int .i64 0)).setCell ⟨n, 8, none⟩ (.string ⟨#[]⟩)) = w9 := hw9
    have c2 := cell_blk (o := 0) h2'
    have z9 := frozen_blk (o := 0) h2'
    have c2' : w9.cell? ⟨n + 1, 0, none⟩ = some (.int .i64 0) := c2
    clear t5 h2' hw9 c2
    go_wp2_with fail
    exact doorP_ok D6.out rfl rfl (HYES _ rfl _ D6.out.low)
end
section
open Go.RowKit Go.Shelf

def RowIn (u : World) (R i : Nat) (r : RowD) (v : Value) : Prop := (u.cell? ⟨R, i * 5, none⟩ = some (.int .i64 r.kind) ∧ u.cell? ⟨R, i * 5 + 1, none⟩ = some (.int .i64 r.tag) ∧ u.cell? ⟨R, i * 5 + 2, none⟩ = some (.string (BT r.word)) ∧ u.cell? ⟨R, i * 5 + 3, none⟩ = some (.string (BT r.msg)) ∧ u.cell? ⟨R, i * 5 + 4, none⟩ = some v)
theorem RowIn.turn {u u' : World} {R i : Nat} {r : RowD} {v : Value} (h : RowIn u R i r v) (t : Turn Nn u u') : RowIn u' R i r v :=
  let ⟨a, b, c, d, e⟩ := h
  ⟨cell_turn t a, cell_turn t b, cell_turn t c, cell_turn t d, cell_turn t e⟩
set_option maxRecDepth 100000 in
set_option maxHeartbeats 40000000 in
theorem text_row {E : EventD} (hs : ESmall E) (h0 : E.kind ≠ 0) {w : World} (hw : Laid w) : Calls Tryz.prog 21 #[.agg (evC E)] w (TextP w E) := by
  obtain ⟨W, n, O⟩ := open_ex w E
  have HD := Lib.hid O.door
  have HW := Lib.hid hw
  have HE := Lib.hid O.ev
  have HS := Lib.hid hs
  have H0 := Lib.hid h0
  have HNO := fun (h : textD E = none) W' (t : Turn Nn w W') => textP_none (w := w) (E := E) (W := W') h t
  have HYES := fun s (h : textD E = some s) W' (t : Turn Nn w W') => textP_some (w := w) (E := E) (W := W') (s := s) h t
  obtain ⟨w0, w1, w2, w3, hn, e0, s0, e1, s1, e2, s2, e3, c3, z3, e4⟩ := O.ex
  have y0 := (evCells O.ev).1
  have hmf : ∀ (fn : Fn) (first cap : Array Value) (w : World), (Instr.makeFunc fn first cap).run Tryz.prog w = .ok (.func fn first cap) w := fun _ _ _ _ => rfl
  obtain ⟨Pq, hP⟩ : ∃ Pq, TextP w E = Pq := ⟨_, rfl⟩
  rw [hP] at HNO HYES ⊢
  unfold evC
  obtain ⟨k, hk⟩ : ∃ k, E.kind = k := ⟨_, rfl⟩
  have HK := Lib.hid hk
  rw [hk] at h0 y0 e0 ⊢
  clear O hw hP hk hs
  go_enter_defers Tryz.func21, Tryz.ntmps21
  go_wp2_with fail
  refine (rows_any _).mono ?_
  rintro e w5 ⟨R, rfl, _, hR, t5⟩
  have D5 := Lib.hid (HD.out.turn t5)
  have E5 := Lib.hid (HE.out.turn t5)
  have R5 := Lib.hid hR
  clear t5 hR y0 e0 e1 e2 e3 e4 c3 z3 h0 s0 s1 s2 hn
  go_wp2_with fail
  refine (index_any E5.out R5.out).mono ?_
  rintro e w6 ⟨z, rfl, hz, t6⟩
  have D6 := Lib.hid (D5.out.turn t6)
  have E6 := Lib.hid (E5.out.turn t6)
  have R6 := Lib.hid (R5.out.turn t6)
  clear t6
  rcases hz with ⟨i, r, rfl, hi, h1, h2⟩ | ⟨rfl, hno⟩
  · have hr : r ∈ rowsD := List.mem_of_getElem? hi
    have HR := Lib.hid hr
    have hlt : i < 13 := (List.getElem?_eq_some_iff.1 hi).1
    have hlti : (i : Int) < 13 := by omega
    have HTX := Lib.hid (textD_rowX H0.out hr h1 h2)
    obtain ⟨v, hf, xs⟩ := R6.out.row5 hi
    have HX := Lib.hid (show RowIn w6 R i r v from xs)
    obtain ⟨x0, x1, x2, x3, x4⟩ := xs
    have HF := Lib.hid hf
    have HT := Lib.hid (tell_any hr HS.out E6.out hf (HW.out.turn D6.out.low))
    have HLEN := fun ws (h : tellR r E = some ws) => Lib.hid (tellR_len hr HS.out h)
    unfold TellR at HT
    unfold rowA at HT
    obtain ⟨x, hx⟩ : ∃ x, tellR r E = x := ⟨_, rfl⟩
    rw [hx] at HT
    simp only [hx] at HLEN
    have HTY : Hid (textD E = textX r E x) := Lib.hid (HTX.out.trans (congrArg (textX r E) hx))
    clear HTX hi h1 h2 hr hf hx
    go_wp2_with fail
    refine (need_yes _).mono ?_
    rintro e wn ⟨rfl, rfl⟩
    go_wp2_with fail
    refine HT.out.mono ?_
    rintro e w7 he
    clear x0 x1 x2 x3 x4 HT
    cases x with
    | none =>
      obtain ⟨rfl, t7⟩ : e = badE ∧ Turn Nn _ w7 := he
      exact door_bad (D6.out.turn t7) rfl rfl (HNO HTY.out)
    | some ws =>
      obtain ⟨v7, rfl, hO⟩ : ∃ v, e = .returned v ∧ OWS _ v ws w7 := he
      obtain ⟨hl, hx⟩ := (HLEN ws rfl).out
      have HL1 := Lib.hid hl
      have HL2 := Lib.hid hx
      have HO := Lib.hid hO
      have D7 := Lib.hid (D6.out.turn hO.low)
      have E7 := Lib.hid (E6.out.turn hO.low)
      have X7 := Lib.hid (HX.out.turn hO.low)
      have F7 := Lib.hid (HF.out.turn hO.low)
      obtain ⟨lb, cap, rfl, hcap, hL⟩ := hO.at0 (fun h => by rw [h] at hl; unfold sizeR at hl; simp at hl; omega)
      have HCAP := Lib.hid hcap
      have HWS := Lib.hid hL
      clear hl hx hO hL hcap HLEN
      go_upto_region 11 with (fail)
      refine held_begin (fun u => EvAt u n E ∧ RowIn u R i r v) (by kernel_rfl) ?_
      generalize hwd : World.drew w7 = wd
      have TD : Hid (Turn Nn w7 wd) := Lib.hid (by rw [← hwd]; exact (Turn.refl Nn w7).drew)
      have DD := Lib.hid (D7.out.turn TD.out)
      have SD : Hid (EvAt wd n E ∧ RowIn wd R i r v) := Lib.hid ⟨E7.out.turn TD.out, X7.out.turn TD.out⟩
      have HRD := Lib.hid (row_read_any HR.out (HWS.out.turn TD.out) HL1.out HL2.out HCAP.out (HF.out.turn (HO.out.low.trans TD.out)) (HW.out.turn DD.out.low))
      unfold rowA at HRD
      obtain ⟨y, hy⟩ : ∃ y, readR r ws = y := ⟨_, rfl⟩
      have HY := Lib.hid hy
      rw [hy] at HRD
      clear hwd hy
      refine held_take 0 ?_ rfl (by kernel_rfl) (by kernel_rfl) (by kernel_rfl) (by intro c a w h; exact put21 (k := 34) (by decide) (by decide) h) (Or.inl ⟨by kernel_rfl, ?_⟩) SD.out ?_
      rotate_left 1
      · intro u hu; obtain ⟨hu1, hu2⟩ := hu; obtain ⟨c0, c1, c2, c3, c4⟩ := hu2; obtain ⟨y0, y1, y2, y3, y4, y5, y6, y7, y8⟩ := evCells hu1; go_simp; first | done | with_reducible rfl
      try simp only [Act.put, nA, nB, nC, nD, nE, nF]
      refine held_take 1 ?_ rfl (by kernel_rfl) (by kernel_rfl) (by kernel_rfl) (by intro c a w h; exact put21 (k := 35) (by decide) (by decide) h) (Or.inl ⟨by kernel_rfl, ?_⟩) SD.out ?_
      rotate_left 1
      · intro u hu; obtain ⟨hu1, hu2⟩ := hu; obtain ⟨c0, c1, c2, c3, c4⟩ := hu2; obtain ⟨y0, y1, y2, y3, y4, y5, y6, y7, y8⟩ := evCells hu1; go_simp; first | done | with_reducible rfl
      try simp only [Act.put, nA, nB, nC, nD, nE, nF]
      refine held_take 2 ?_ rfl (by kernel_rfl) (by kernel_rfl) (by kernel_rfl) (by intro c a w h; exact put21 (k := 36) (by decide) (by decide) h) (Or.inl ⟨by kernel_rfl, ?_⟩) SD.out ?_
      rotate_left 1
      · intro u hu; obtain ⟨hu1, hu2⟩ := hu; obtain ⟨c0, c1, c2, c3, c4⟩ := hu2; obtain ⟨y0, y1, y2, y3, y4, y5, y6, y7, y8⟩ := evCells hu1; go_simp; first | done | with_reducible rfl
      try simp only [Act.put, nA, nB, nC, nD, nE, nF]
      refine held_take 3 ?_ rfl (by kernel_rfl) (by kernel_rfl) (by kernel_rfl) (by intro c a w h; exact put21 (k := 37) (by decide) (by decide) h) (Or.inl ⟨by kernel_rfl, ?_⟩) SD.out ?_
      rotate_left 1
      · intro u hu; obtain ⟨hu1, hu2⟩ := hu; obtain ⟨c0, c1, c2, c3, c4⟩ := hu2; obtain ⟨y0, y1, y2, y3, y4, y5, y6, y7, y8⟩ := evCells hu1; go_simp; first | done | with_reducible rfl
      try simp only [Act.put, nA, nB, nC, nD, nE, nF]
      refine held_take 4 ?_ rfl (by kernel_rfl) (by kernel_rfl) (by kernel_rfl) (by intro c a w h; exact put21 (k := 38) (by decide) (by decide) h) (Or.inl ⟨by kernel_rfl, ?_⟩) SD.out ?_
      rotate_left 1
      · intro u hu; obtain ⟨hu1, hu2⟩ := hu; obtain ⟨c0, c1, c2, c3, c4⟩ := hu2; obtain ⟨y0, y1, y2, y3, y4, y5, y6, y7, y8⟩ := evCells hu1; go_simp; first | done | with_reducible rfl
      try simp only [Act.put, nA, nB, nC, nD, nE, nF]
      refine held_take 6 ?_ rfl (by kernel_rfl) (by kernel_rfl) (by kernel_rfl) (by intro c a w h; exact put21 (k := 40) (by decide) (by decide) h) (Or.inl ⟨by kernel_rfl, ?_⟩) SD.out ?_
      rotate_left 1
      · intro u hu; obtain ⟨hu1, hu2⟩ := hu; obtain ⟨c0, c1, c2, c3, c4⟩ := hu2; obtain ⟨y0, y1, y2, y3, y4, y5, y6, y7, y8⟩ := evCells hu1; go_simp; first | done | with_reducible rfl
      try simp only [Act.put, nA, nB, nC, nD, nE, nF]
      have HOD := Lib.hid (HO.out.turn TD.out)
      cases y with
      | none =>
        refine held_call 5 (by kernel_rfl) rfl (by kernel_rfl) (by first | rfl | go_simp) HRD.out (fun v u h => by cases h.1) ?_ (fun u h => by cases h.1)
        rintro c w8 ⟨he, t8⟩
        obtain rfl : c = wrongC := Ending.panicked.inj he
        exact door_bad (DD.out.turn t8) rfl rfl (HNO (by rw [HTY.out]; unfold textX; simp only; rw [HY.out]; rfl))
      | some E' =>
        refine held_call 5 (by kernel_rfl) rfl (by kernel_rfl) (by first | rfl | go_simp) HRD.out ?_ (fun c u h => by cases h.1) (fun u h => by cases h.1)
        rintro v8 w8 ⟨he, t8⟩
        obtain rfl : v8 = .agg (evC E') := Ending.returned.inj he
        have D8 := Lib.hid (DD.out.turn t8)
        have S8 : Hid (EvAt w8 n E ∧ RowIn w8 R i r v) := Lib.hid ⟨SD.out.1.turn t8, SD.out.2.turn t8⟩
        have O8 := Lib.hid (HOD.out.turn t8)
        clear t8
        refine ⟨S8.out, ?_⟩
        try simp only [Act.put, nA, nB, nC, nD, nE, nF]
        have heq : ∀ W, (binOp BinOp.eql 34 (.agg (evC E')) (.agg #[.int .i64 E.kind, .int .i64 E.slot, .string (BT E.actor), .int .i64 E.pc, .string (BT E.chan), .int .i64 E.side, .int .i64 E.tag, .int .i64 E.word, .string (BT E.name)])).run Tryz.prog W = .ok (.bool (decide (E' = E))) W := fun W => ev_eql E' E W
        obtain ⟨d, hd⟩ : ∃ d, decide (E' = E) = d := ⟨_, rfl⟩
        simp only [hd] at heq
        have HDD := Lib.hid hd
        clear hd
        refine held_take 7 ?_ rfl (by kernel_rfl) (by kernel_rfl) (by kernel_rfl) (by intro c a w h; exact put21 (k := 41) (by decide) (by decide) h) (Or.inl ⟨by kernel_rfl, ?_⟩) S8.out ?_
        rotate_left 1
        · intro u hu; obtain ⟨hu1, hu2⟩ := hu; obtain ⟨c0, c1, c2, c3, c4⟩ := hu2; obtain ⟨y0, y1, y2, y3, y4, y5, y6, y7, y8⟩ := evCells hu1; go_simp; first | done | with_reducible rfl
        try simp only [Act.put, nA, nB, nC, nD, nE, nF]
        clear heq
        cases d with
        | false =>
          refine held_call 8 (by kernel_rfl) rfl (by kernel_rfl) (by first | rfl | go_simp) (need_no _) (fun v u h => by cases h.1) ?_ (fun u h => by cases h.1)
          rintro c wn ⟨he, rfl⟩
          obtain rfl : c = wrongC := Ending.panicked.inj he
          exact door_bad D8.out rfl rfl (HNO (by rw [HTY.out]; unfold textX; simp only; rw [HY.out, if_neg (fun h => of_decide_eq_false HDD.out (Option.some.inj h))]))
        | true =>
          refine held_call 8 (by kernel_rfl) rfl (by kernel_rfl) (by first | rfl | go_simp) (need_yes _) ?_ (fun c u h => by cases h.1) (fun u h => by cases h.1)
          rintro v9 wn ⟨he, rfl⟩
          obtain rfl : v9 = .tuple #[] := Ending.returned.inj he
          refine ⟨S8.out, ?_⟩
          try simp only [Act.put, nA, nB, nC, nD, nE, nF]
          refine wpAnyH_done (by kernel_rfl) ?_ _
          have hne : ws ≠ [] := fun h => by have hl := HL1.out; rw [h] at hl; unfold sizeR at hl; simp at hl; omega
          have hws : ws.length ≤ 100 := by have := sizeR_le HR.out; have := HL1.out; omega
          have HJ := Lib.hid (join_any O8.out hne hws HL2.out)
          obtain ⟨X, hX⟩ : ∃ X, BT (joinC 32 ws) = X := ⟨_, rfl⟩
          have HXX := Lib.hid hX
          rw [hX] at HJ
          clear hne hws hX
          go_wp2_with fail
          refine HJ.out.mono ?_
          rintro e w9 ⟨rfl, t9⟩
          have D9 := Lib.hid (D8.out.turn t9)
          obtain ⟨q1, q2, q3, q4⟩ := D9.out.cells X
          have D10 := Lib.hid (D9.out.set X)
          clear t9
          go_wp2_with fail
          refine door_ok D10.out rfl rfl ?_
          rw [← HXX.out]
          exact HYES _ (by rw [HTY.out]; unfold textX; simp only; rw [HY.out, if_pos (congrArg some (of_decide_eq_true HDD.out))]) _ (by rw [HXX.out]; exact D10.out.low)
  · have HN := Lib.hid hno
    clear hno
    go_wp2_with fail
    refine (need_no _).mono ?_
    rintro e wn ⟨rfl, rfl⟩
    exact door_bad D6.out rfl rfl (HNO (textD_no H0.out HN.out))
theorem text_any {E : EventD} (hs : ESmall E) {w : World} (hw : Laid w) : Calls Tryz.prog 21 #[.agg (evC E)] w (TextP w E) := by
  by_cases h : E.kind = 0
  · exact text_idle hs h hw
  · exact text_row hs h hw
end
end Go.Proofs.YtpbjblbeepbklaaGreatDoor
