/- The document's queue: its functions. -/
import Derived.Test.YtjnekmdocbmofaaQn
namespace Go.Proofs.Ytjnekmdocbmofaa
set_option linter.unusedSimpArgs false
set_option linter.unusedVariables false
open Go.RowKit Go.Shelf

/-- append, by the equation of its run. -/
theorem wpList_append_eq {P : Program} {w : World} {ops : Array Oper} {rest : List Oper} {o : Oper} {a : Act} {Q : Exit → Act → World → Prop}
    (hg : o.guard = none) (s x : Operand) (t : TypeId) (hop : o.op = Op.call { callee := Callee.builtin Builtin.append, args := #[s, x], argTypes := #[t, t] })
    (v u : Value) (hs : a.eval s = v) (hx : a.eval x = u) {r : Value} {W' : World} (hrun : (Builtin.append_ #[t, t] o.type #[v, u]).run P w = .ok r W')
    (hK : wpList P ops Q rest (a.put o.dst r) W') : wpList P ops Q (o :: rest) a w := by
  refine wpList_plain hg fun K hK' => ?_
  unfold Oper.wp
  simp [execOp, hop, resolve, invoke, builtin, hs, hx, hrun, Result.andThen]
  exact hK' _ _ hK

set_option maxHeartbeats 1000000 in
theorem refNew_bad (m : Int) (w : World) (h : m ≤ 0 ∨ 16 < m) :
    Calls Try.prog 12 #[.int .i64 m] w fun e w' => e = .returned (.pointer none) ∧ w = w' := by
  rcases h with h | h
  all_goals
    try have h0 : ¬ m < 1 := by omega
    try have h1 : m < 1 := by omega
    go_enter Try.func12, Try.ntmps12
    go_wp2
    go_ret
    exact ⟨rfl, rfl⟩

set_option maxHeartbeats 1000000 in
theorem refNew_ok (m : Nat) (w : World) (h0 : 1 ≤ m) (h1 : m ≤ 16) :
    Calls Try.prog 12 #[.int .i64 m] w fun e w' => e = .returned (.pointer (some ⟨w.heap.size, 0, none⟩)) ∧ w' = w.alloc (.cells #[.slice none 0 0, .int .i64 m] 37) := by
  have h2 : ¬ (m : Int) < 1 := by omega
  have h3 : ¬ (16 : Int) < m := by omega
  go_enter Try.func12, Try.ntmps12
  go_wp2
  go_ret
  exact ⟨rfl, rfl⟩

theorem RefQ.new {w : World} {m : Nat} (h1 : 1 ≤ m) (h2 : m ≤ 16) : RefQ (w.alloc (.cells #[.slice none 0 0, .int .i64 m] 37)) w.heap.size [] m :=
  ⟨Nat.zero_le _, h2, _, World.alloc_heap_new _ _, .inl ⟨rfl, rfl⟩⟩

set_option maxHeartbeats 1000000 in
theorem refFull {w rb L m} (h : RefQ w rb L m) :
    Calls Try.prog 20 #[.pointer (some ⟨rb, 0, none⟩)] w fun e w' => e = .returned (.bool (decide (m ≤ L.length))) ∧ ∃ k, w' = w.drewN k := by
  obtain ⟨_, _, v, h1, h2⟩ := h
  obtain ⟨pa, cap, rfl⟩ := h2.shape
  have c0 := cell_blk h1 0
  have c1 := cell_blk h1 1
  simp only [List.getElem?_toArray, List.getElem?_cons_zero, List.getElem?_cons_succ] at c0 c1
  obtain ⟨n, hn⟩ : ∃ n, L.length = n := ⟨_, rfl⟩
  rw [hn] at c0 ⊢
  clear h1 h2 hn
  go_enter Try.func20, Try.ntmps20
  go_wp2
  go_quiet (fail)
  go_wp2
  go_ret
  exact ⟨rfl, _, rfl⟩

set_option maxHeartbeats 1000000 in
theorem refPut_full {w rb L m} (h : RefQ w rb L m) (x : Int) (hl : L.length = m) :
    Calls Try.prog 15 #[.pointer (some ⟨rb, 0, none⟩), .int .i64 x] w fun e w' => e = .returned (.int .i64 22) ∧ RefQ w' rb L m ∧ Turn (Rb rb) w w' := by
  have hd : decide (m ≤ L.length) = true := by simp; omega
  go_enter Try.func15, Try.ntmps15
  go_wp2_with fail
  refine (refFull h).mono ?_
  rintro e w' ⟨rfl, k, rfl⟩
  go_wp2_with fail
  go_ret
  exact ⟨rfl, h.drewN k, (Turn.refl _ _).drewN k⟩

set_option maxRecDepth 100000 in
set_option maxHeartbeats 1000000 in
theorem refPut_ok {w rb L m} (h : RefQ w rb L m) (x : Int) (hl : L.length < m) :
    Calls Try.prog 15 #[.pointer (some ⟨rb, 0, none⟩), .int .i64 x] w fun e w' => e = .returned (.int .i64 0) ∧ RefQ w' rb (L ++ [x]) m ∧ Turn (Rb rb) w w' := by
  have hd : decide (m ≤ L.length) = false := by simp; omega
  have HD := Lib.hid hd
  have h0 := h
  have hlt := h.lt
  obtain ⟨hm, hm16, v, h1, h2⟩ := h
  obtain ⟨pa, cap, rfl⟩ := h2.shape
  have c0 := cell_blk h1 0
  simp only [List.getElem?_toArray, List.getElem?_cons_zero] at c0
  have hF := @refFull w rb L m h0
  rw [hd] at hF
  have HF := Lib.hid hF
  obtain ⟨n, hn⟩ : ∃ n, L.length = n := ⟨_, rfl⟩
  clear hd hF
  go_enter Try.func15, Try.ntmps15
  go_wp2_with fail
  refine HF.out.mono ?_
  rintro e w' ⟨rfl, k, rfl⟩
  have t1 : Turn Nn w ((w.drewN k).alloc (.cells #[.int .i64 x] 2)) := ((Turn.refl _ _).drewN k).alloc _
  have hB : ((w.drewN k).alloc (.cells #[.int .i64 x] 2)).heap[w.heap.size]? = some (.cells #[.int .i64 x] 2) := World.alloc_heap_new (w.drewN k) _
  obtain ⟨g, o, cap', W', hrun, hsl, hT⟩ := append_run (W := (w.drewN k).alloc (.cells #[.int .i64 x] 2)) (h2.turn t1 (fun _ h => h.elim)) (by omega) (by simp; omega) hB 35
  have g1 : W'.heap[rb]? = some (.cells #[.slice pa L.length cap, .int .i64 m] 37) := (hT.block rb (by simp; omega) (by omega)).trans ((t1.block rb hlt (fun h => h)).trans h1)
  have c2 := cell_blk g1 0
  have c3 := frozen_blk g1 0
  simp only [List.getElem?_toArray, List.getElem?_cons_zero] at c2
  have hS : RefQ (W'.setCell ⟨rb, 0, none⟩ (.slice (some ⟨g, o, none⟩) (L.length + 1) cap')) rb (L ++ [x]) m := by
    refine ⟨by rw [List.length_append]; simp; omega, hm16, .slice (some ⟨g, o, none⟩) (L.length + 1) cap', ?_, ?_⟩
    · have := heap_setCell_at g1 0 (.slice (some ⟨g, o, none⟩) (L.length + 1) cap')
      exact this
    · exact hsl.turn ((Turn.refl (fun k => k = rb) _).setCell (p := ⟨rb, 0, none⟩) (.inl rfl) _) (fun k hk => by omega)
  have hTT : Turn (Rb rb) w (W'.setCell ⟨rb, 0, none⟩ (.slice (some ⟨g, o, none⟩) (L.length + 1) cap')) :=
    (((t1.mono (fun _ h => h.elim)).trans (hT.mono (fun k hk => Nat.le_of_lt hk))).setCell (p := ⟨rb, 0, none⟩) (.inl (Nat.le_refl _)) _)
  have HS := Lib.hid hS
  have HT := Lib.hid hTT
  rw [hn] at HS HT hrun c0 c2
  have HR := Lib.hid hrun
  clear hS hTT g1 hT hsl hB t1 h1 h2 hn h0 hrun
  go_wp2_with (at_builtin; refine wpList_append_eq rfl _ _ 35 rfl _ _ rfl rfl HR.out ?_)
  go_ret
  exact ⟨rfl, HS.out, HT.out⟩

set_option maxHeartbeats 1000000 in
theorem refTake_empty {w rb m} (h : RefQ w rb [] m) :
    Calls Try.prog 17 #[.pointer (some ⟨rb, 0, none⟩)] w fun e w' => e = .returned (.tuple #[.int .i64 0, .int .i64 23]) ∧ w = w' := by
  obtain ⟨_, _, v, h1, h2⟩ := h
  obtain ⟨pa, cap, rfl⟩ := h2.shape
  have c0 := cell_blk h1 0
  simp only [List.getElem?_toArray, List.getElem?_cons_zero, List.length_nil] at c0
  clear h1 h2
  go_enter Try.func17, Try.ntmps17
  go_wp2
  go_ret2
  exact ⟨rfl, rfl⟩

theorem run_sliceFrom1 (g o n cap : Nat) (h : 1 ≤ n) (hc : n ≤ cap) (w : World) :
    ∃ o', (∀ w, (Instr.sliceAt 35 (.slice (some ⟨g, o, none⟩) n cap) (some (.int .i64 1)) none none).run Try.prog w = .ok (.slice (some ⟨g, o', none⟩) (n - 1) (cap - 1)) w) ∧ (o' = o + 1 ∨ (o' = o ∧ cap = 1)) := by
  have h8 := info2
  cases hq : Try.prog.info? 2 with
  | none => simp [hq] at h8
  | some i =>
    have hi' : i.size = 1 := by simpa [hq] using h8
    have e2 : (1 : Int) ≤ n := by omega
    have e3 : (1 : Nat) ≤ n := h
    by_cases h1 : cap = 1
    · refine ⟨o, fun w => ?_, .inr ⟨rfl, h1⟩⟩
      subst h1
      simp [Instr.sliceAt, Instr.slice, run_underlying under35, go_sem, sizeOf, typeInfo, hq, hi', e2, e3]
    · refine ⟨o + 1, fun w => ?_, .inl rfl⟩
      have hadd : (⟨g, o, none⟩ : Addr).add 1 = ⟨g, o + 1, none⟩ := by unfold Addr.add; simp
      simp [Instr.sliceAt, Instr.slice, run_underlying under35, go_sem, sizeOf, typeInfo, hq, hi', e2, e3, h1, hadd]

set_option maxHeartbeats 1000000 in
theorem refTake_ok {w rb x L m} (h : RefQ w rb (x :: L) m) :
    Calls Try.prog 17 #[.pointer (some ⟨rb, 0, none⟩)] w fun e w' => e = .returned (.tuple #[.int .i64 x, .int .i64 0]) ∧ RefQ w' rb L m ∧ Turn (Rb rb) w w' := by
  obtain ⟨hm, hm16, v, h1, h2⟩ := h
  obtain ⟨g, o, cap, cur, hg, rfl, hcur, hfit, hcap, hc⟩ := h2.resolve_left (fun h => by cases h.1)
  have c0 := cell_blk h1 0
  have cz := frozen_blk h1 0
  have cx := (cell_blk hcur o).trans (hc 0 (by simp))
  simp only [List.getElem?_toArray, List.getElem?_cons_zero, Option.getD_some, List.length_cons, Nat.add_zero] at c0 cx
  rw [List.length_cons] at hcap hm
  obtain ⟨o', hsl, ho'⟩ := run_sliceFrom1 g o (L.length + 1) cap (by omega) hcap w
  obtain ⟨n, hn⟩ : ∃ n, L.length = n := ⟨_, rfl⟩
  rw [Nat.add_sub_cancel] at hsl
  have hS : RefQ (w.setCell ⟨rb, 0, none⟩ (.slice (some ⟨g, o', none⟩) L.length (cap - 1))) rb L m := by
    refine ⟨by omega, hm16, _, heap_setCell_at h1 0 (.slice (some ⟨g, o', none⟩) L.length (cap - 1)), ?_⟩
    have hcur' : (w.setCell ⟨rb, 0, none⟩ (.slice (some ⟨g, o', none⟩) L.length (cap - 1))).heap[g]? = some (.cells cur 2) := (Below.heap_setCell _ _ _ _ (by show g ≠ rb; omega)).trans hcur
    refine .inr ⟨g, o', cap - 1, cur, hg, rfl, hcur', by omega, by omega, fun i hi => ?_⟩
    have := hc (i + 1) (by simp; omega)
    rcases ho' with rfl | ⟨rfl, h1⟩
    · rw [show o + 1 + i = o + (i + 1) by omega, this]; simp
    · omega
  have HS := Lib.hid hS
  rw [hn] at c0 hsl HS
  have hn1 : ((n : Int) + 1 == 0) = false := by rw [beq_eq_false_iff_ne]; omega
  have hn2 : (0 : Int) < (n : Int) + 1 := by omega
  clear h1 h2 hcur hc hS hn hm hcap
  go_enter Try.func17, Try.ntmps17
  go_wp2
  go_ret2
  exact ⟨rfl, HS.out, (Turn.refl (Rb rb) w).setCell (p := ⟨rb, 0, none⟩) (.inl (Nat.le_refl _)) _⟩
end Go.Proofs.Ytjnekmdocbmofaa
