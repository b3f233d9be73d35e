/- The reader's turns, word by word. -/
import Derived.Test.YtjnllclpdllceaaGreatDoorSj
import Derived.Laws.EntriesVeiled
namespace Go.Proofs.YtjnllclpdllceaaGreatDoor
set_option linter.unusedSimpArgs false
set_option linter.unusedVariables false
open Go.RowKit Go.Shelf

set_option maxRecDepth 100000 in
set_option maxHeartbeats 16000000 in
theorem rturn_other {w0 w : World} {r : Nat} {s : ScriptD} {v : Value} {b o n cap : Nat} {k : Bs} {A : List Bs} {x : Bool} (h0 : Laid w0) (hb0 : Below w0.heap.size w0 w) (h : RAt w w0.heap.size r 2 s v) (hst : s.turns.length ≤ 4096) (hn : n = A.length + 1) (hc : ∀ i, i < n → w.cell? ⟨b, o + i, none⟩ = some (.string ⟨((k :: A)[i]?.getD []).toArray⟩)) (hcap : n ≤ cap)
    (hL : A.length ≤ 900000) (hs : ∀ i, i < A.length → (A[i]?.getD []).length ≤ 1000000) (hA : (numsL A).isSome = x) (k0 : k ≠ wPick) (k1 : k ≠ wRound) (k2 : k ≠ wShow) (k3 : k ≠ wRows) :
    Calls Tryz.prog 75 #[.pointer (some ⟨r, 0, none⟩), .slice (some ⟨b, o, none⟩) n cap] w (RPostV w w0.heap.size r 2 v (.error 5)) := by
  have e0 : (([112, 105, 99, 107] : Bs) != k) = true := by rw [bne_iff_ne]; exact fun h => k0 h.symm
  have f0 : (([112, 105, 99, 107] : Bs) == k) = false := by rw [beq_eq_false_iff_ne]; exact fun h => k0 h.symm
  have e1 : (([114, 111, 117, 110, 100] : Bs) != k) = true := by rw [bne_iff_ne]; exact fun h => k1 h.symm
  have f1 : (([114, 111, 117, 110, 100] : Bs) == k) = false := by rw [beq_eq_false_iff_ne]; exact fun h => k1 h.symm
  have e2 : (([115, 104, 111, 119] : Bs) != k) = true := by rw [bne_iff_ne]; exact fun h => k2 h.symm
  have f2 : (([115, 104, 111, 119] : Bs) == k) = false := by rw [beq_eq_false_iff_ne]; exact fun h => k2 h.symm
  have e3 : (([114, 111, 119, 115] : Bs) != k) = true := by rw [bne_iff_ne]; exact fun h => k3 h.symm
  have f3 : (([114, 111, 119, 115] : Bs) == k) = false := by rw [beq_eq_false_iff_ne]; exact fun h => k3 h.symm
  clear k0 k1 k2 k3
  obtain ⟨pa, hs1, hs2, hsl⟩ := tail_run hc hn hcap
  have c0 : w.cell? ⟨b, o, none⟩ = some (.string ⟨k.toArray⟩) := hc 0 (by omega)
  have HSA := Lib.hid hs
  have HR0 := Lib.hid h
  have HB0 := Lib.hid hb0
  have HL0 := Lib.hid (h0.below hb0)
  have HLW := Lib.hid hL
  have HSL := Lib.hid hsl
  have HN := Lib.hid hn
  have HNA := Lib.hid hA
  have HST := Lib.hid hst
  have hpos : (1 : Int) ≤ (n : Int) := by omega
  clear hc hn hs h hb0 h0 hsl hA hL hst
  have i0 := kindsAt0
  have i1 := kindsAt1
  have i2 := kindsAt2
  have i3 := kindsAt3
  go_enter Tryz.func75, Tryz.ntmps75
  go_wp2_with fail
  refine (kinds_any _).mono ?_
  rintro e w1 ⟨rfl, hw1⟩
  have T0 : Hid (Turn Nn w w1) := by rw [hw1]; exact Lib.hid ((Turn.refl _ _).alloc _)
  clear hw1
  obtain ⟨q0, hq0⟩ : ∃ q, w1 = q := ⟨_, rfl⟩
  rw [hq0] at T0 ⊢
  clear hq0 w1
  go_wp2_with fail
  refine wp_loop_rounds 5 ?_
  rw [rounds_succ]
  go_wp2_with fail
  refine (numbers_skip (HSL.out.turn (T0.out.alloc _)) (by have := HLW.out; omega) HSA.out (HL0.out.turn (T0.out.alloc _)) HNA.out).mono ?_
  rintro e u0 ⟨v0, rfl, ht⟩
  obtain ⟨x0, x1, x2⟩ := kcell ht
  have d0 := cell_turn ((T0.out.alloc _).trans ht) c0
  have U0 := Lib.hid ((T0.out.alloc _).trans ht)
  clear ht x1 x2
  go_wp2_with fail
  go_quiet (fail)
  generalize hq : World.drewN u0 _ = q1
  have T1 : Hid (Turn Nn w q1) := by rw [← hq]; exact Lib.hid (U0.out.drewN _)
  clear hq x0 d0
  go_wp2_with fail
  rw [rounds_succ]
  go_wp2_with fail
  refine (numbers_skip (HSL.out.turn (T1.out.alloc _)) (by have := HLW.out; omega) HSA.out (HL0.out.turn (T1.out.alloc _)) HNA.out).mono ?_
  rintro e u1 ⟨v1, rfl, ht⟩
  obtain ⟨x0, x1, x2⟩ := kcell ht
  have d0 := cell_turn ((T1.out.alloc _).trans ht) c0
  have U1 := Lib.hid ((T1.out.alloc _).trans ht)
  clear ht x1 x2
  go_wp2_with fail
  go_quiet (fail)
  generalize hq : World.drewN u1 _ = q2
  have T2 : Hid (Turn Nn w q2) := by rw [← hq]; exact Lib.hid (U1.out.drewN _)
  clear hq x0 d0
  go_wp2_with fail
  rw [rounds_succ]
  go_wp2_with fail
  refine (numbers_skip (HSL.out.turn (T2.out.alloc _)) (by have := HLW.out; omega) HSA.out (HL0.out.turn (T2.out.alloc _)) HNA.out).mono ?_
  rintro e u2 ⟨v2, rfl, ht⟩
  obtain ⟨x0, x1, x2⟩ := kcell ht
  have d0 := cell_turn ((T2.out.alloc _).trans ht) c0
  have U2 := Lib.hid ((T2.out.alloc _).trans ht)
  clear ht x1 x2
  go_wp2_with fail
  go_quiet (fail)
  generalize hq : World.drewN u2 _ = q3
  have T3 : Hid (Turn Nn w q3) := by rw [← hq]; exact Lib.hid (U2.out.drewN _)
  clear hq x0 d0
  go_wp2_with fail
  rw [rounds_succ]
  go_wp2_with fail
  refine (numbers_skip (HSL.out.turn (T3.out.alloc _)) (by have := HLW.out; omega) HSA.out (HL0.out.turn (T3.out.alloc _)) HNA.out).mono ?_
  rintro e u3 ⟨v3, rfl, ht⟩
  obtain ⟨x0, x1, x2⟩ := kcell ht
  have d0 := cell_turn ((T3.out.alloc _).trans ht) c0
  have U3 := Lib.hid ((T3.out.alloc _).trans ht)
  clear ht x1 x2
  go_wp2_with fail
  go_quiet (fail)
  generalize hq : World.drewN u3 _ = q4
  have T4 : Hid (Turn Nn w q4) := by rw [← hq]; exact Lib.hid (U3.out.drewN _)
  clear hq x0 d0
  go_wp2_with fail
  rw [rounds_succ]
  go_wp2_with fail
  go_ret
  exact RPostV.err rfl T4.out.wide

set_option maxRecDepth 100000 in
set_option maxHeartbeats 16000000 in
theorem rturn_none0 {w0 w : World} {r : Nat} {s : ScriptD} {v : Value} {b o n cap : Nat} {A : List Bs} (h0 : Laid w0) (hb0 : Below w0.heap.size w0 w) (h : RAt w w0.heap.size r 2 s v) (hst : s.turns.length ≤ 4096) (hn : n = A.length + 1) (hc : ∀ i, i < n → w.cell? ⟨b, o + i, none⟩ = some (.string ⟨((wPick :: A)[i]?.getD []).toArray⟩)) (hcap : n ≤ cap)
    (hL : A.length ≤ 900000) (hs : ∀ i, i < A.length → (A[i]?.getD []).length ≤ 1000000) (hA : (numsL A).isSome = false) :
    Calls Tryz.prog 75 #[.pointer (some ⟨r, 0, none⟩), .slice (some ⟨b, o, none⟩) n cap] w (RPostV w w0.heap.size r 2 v (.error 5)) := by
  obtain ⟨pa, hs1, hs2, hsl⟩ := tail_run hc hn hcap
  have c0 : w.cell? ⟨b, o, none⟩ = some (.string ⟨#[112, 105, 99, 107]⟩) := hc 0 (by omega)
  have HSA := Lib.hid hs
  have HR0 := Lib.hid h
  have HB0 := Lib.hid hb0
  have HL0 := Lib.hid (h0.below hb0)
  have HLW := Lib.hid hL
  have HSL := Lib.hid hsl
  have HN := Lib.hid hn
  have HNA := Lib.hid hA
  have HST := Lib.hid hst
  have hpos : (1 : Int) ≤ (n : Int) := by omega
  clear hc hn hs h hb0 h0 hsl hA hL hst
  have i0 := kindsAt0
  have i1 := kindsAt1
  have i2 := kindsAt2
  have i3 := kindsAt3
  go_enter Tryz.func75, Tryz.ntmps75
  go_wp2_with fail
  refine (kinds_any _).mono ?_
  rintro e w1 ⟨rfl, hw1⟩
  have T0 : Hid (Turn Nn w w1) := by rw [hw1]; exact Lib.hid ((Turn.refl _ _).alloc _)
  clear hw1
  obtain ⟨q0, hq0⟩ : ∃ q, w1 = q := ⟨_, rfl⟩
  rw [hq0] at T0 ⊢
  clear hq0 w1
  go_wp2_with fail
  refine wp_loop_rounds 5 ?_
  rw [rounds_succ]
  go_wp2_with fail
  refine (numbers_skip (HSL.out.turn (T0.out.alloc _)) (by have := HLW.out; omega) HSA.out (HL0.out.turn (T0.out.alloc _)) HNA.out).mono ?_
  rintro e u0 ⟨v0, rfl, ht⟩
  obtain ⟨x0, x1, x2⟩ := kcell ht
  have d0 := cell_turn ((T0.out.alloc _).trans ht) c0
  have U0 := Lib.hid ((T0.out.alloc _).trans ht)
  clear ht x1 x2
  go_wp2_with fail
  go_quiet (fail)
  generalize hq : World.drewN u0 _ = q1
  have T1 : Hid (Turn Nn w q1) := by rw [← hq]; exact Lib.hid (U0.out.drewN _)
  clear hq x0 d0
  go_wp2_with fail
  rw [rounds_succ]
  go_wp2_with fail
  refine (numbers_skip (HSL.out.turn (T1.out.alloc _)) (by have := HLW.out; omega) HSA.out (HL0.out.turn (T1.out.alloc _)) HNA.out).mono ?_
  rintro e u1 ⟨v1, rfl, ht⟩
  obtain ⟨x0, x1, x2⟩ := kcell ht
  have d0 := cell_turn ((T1.out.alloc _).trans ht) c0
  have U1 := Lib.hid ((T1.out.alloc _).trans ht)
  clear ht x1 x2
  go_wp2_with fail
  go_quiet (fail)
  generalize hq : World.drewN u1 _ = q2
  have T2 : Hid (Turn Nn w q2) := by rw [← hq]; exact Lib.hid (U1.out.drewN _)
  clear hq x0 d0
  go_wp2_with fail
  rw [rounds_succ]
  go_wp2_with fail
  refine (numbers_skip (HSL.out.turn (T2.out.alloc _)) (by have := HLW.out; omega) HSA.out (HL0.out.turn (T2.out.alloc _)) HNA.out).mono ?_
  rintro e u2 ⟨v2, rfl, ht⟩
  obtain ⟨x0, x1, x2⟩ := kcell ht
  have d0 := cell_turn ((T2.out.alloc _).trans ht) c0
  have U2 := Lib.hid ((T2.out.alloc _).trans ht)
  clear ht x1 x2
  go_wp2_with fail
  go_quiet (fail)
  generalize hq : World.drewN u2 _ = q3
  have T3 : Hid (Turn Nn w q3) := by rw [← hq]; exact Lib.hid (U2.out.drewN _)
  clear hq x0 d0
  go_wp2_with fail
  rw [rounds_succ]
  go_wp2_with fail
  refine (numbers_skip (HSL.out.turn (T3.out.alloc _)) (by have := HLW.out; omega) HSA.out (HL0.out.turn (T3.out.alloc _)) HNA.out).mono ?_
  rintro e u3 ⟨v3, rfl, ht⟩
  obtain ⟨x0, x1, x2⟩ := kcell ht
  have d0 := cell_turn ((T3.out.alloc _).trans ht) c0
  have U3 := Lib.hid ((T3.out.alloc _).trans ht)
  clear ht x1 x2
  go_wp2_with fail
  go_quiet (fail)
  generalize hq : World.drewN u3 _ = q4
  have T4 : Hid (Turn Nn w q4) := by rw [← hq]; exact Lib.hid (U3.out.drewN _)
  clear hq x0 d0
  go_wp2_with fail
  rw [rounds_succ]
  go_wp2_with fail
  go_ret
  exact RPostV.err rfl T4.out.wide

set_option maxRecDepth 100000 in
set_option maxHeartbeats 16000000 in
theorem rturn_none1 {w0 w : World} {r : Nat} {s : ScriptD} {v : Value} {b o n cap : Nat} {A : List Bs} (h0 : Laid w0) (hb0 : Below w0.heap.size w0 w) (h : RAt w w0.heap.size r 2 s v) (hst : s.turns.length ≤ 4096) (hn : n = A.length + 1) (hc : ∀ i, i < n → w.cell? ⟨b, o + i, none⟩ = some (.string ⟨((wRound :: A)[i]?.getD []).toArray⟩)) (hcap : n ≤ cap)
    (hL : A.length ≤ 900000) (hs : ∀ i, i < A.length → (A[i]?.getD []).length ≤ 1000000) (hA : (numsL A).isSome = false) :
    Calls Tryz.prog 75 #[.pointer (some ⟨r, 0, none⟩), .slice (some ⟨b, o, none⟩) n cap] w (RPostV w w0.heap.size r 2 v (.error 5)) := by
  obtain ⟨pa, hs1, hs2, hsl⟩ := tail_run hc hn hcap
  have c0 : w.cell? ⟨b, o, none⟩ = some (.string ⟨#[114, 111, 117, 110, 100]⟩) := hc 0 (by omega)
  have HSA := Lib.hid hs
  have HR0 := Lib.hid h
  have HB0 := Lib.hid hb0
  have HL0 := Lib.hid (h0.below hb0)
  have HLW := Lib.hid hL
  have HSL := Lib.hid hsl
  have HN := Lib.hid hn
  have HNA := Lib.hid hA
  have HST := Lib.hid hst
  have hpos : (1 : Int) ≤ (n : Int) := by omega
  clear hc hn hs h hb0 h0 hsl hA hL hst
  have i0 := kindsAt0
  have i1 := kindsAt1
  have i2 := kindsAt2
  have i3 := kindsAt3
  go_enter Tryz.func75, Tryz.ntmps75
  go_wp2_with fail
  refine (kinds_any _).mono ?_
  rintro e w1 ⟨rfl, hw1⟩
  have T0 : Hid (Turn Nn w w1) := by rw [hw1]; exact Lib.hid ((Turn.refl _ _).alloc _)
  clear hw1
  obtain ⟨q0, hq0⟩ : ∃ q, w1 = q := ⟨_, rfl⟩
  rw [hq0] at T0 ⊢
  clear hq0 w1
  go_wp2_with fail
  refine wp_loop_rounds 5 ?_
  rw [rounds_succ]
  go_wp2_with fail
  refine (numbers_skip (HSL.out.turn (T0.out.alloc _)) (by have := HLW.out; omega) HSA.out (HL0.out.turn (T0.out.alloc _)) HNA.out).mono ?_
  rintro e u0 ⟨v0, rfl, ht⟩
  obtain ⟨x0, x1, x2⟩ := kcell ht
  have d0 := cell_turn ((T0.out.alloc _).trans ht) c0
  have U0 := Lib.hid ((T0.out.alloc _).trans ht)
  clear ht x1 x2
  go_wp2_with fail
  go_quiet (fail)
  generalize hq : World.drewN u0 _ = q1
  have T1 : Hid (Turn Nn w q1) := by rw [← hq]; exact Lib.hid (U0.out.drewN _)
  clear hq x0 d0
  go_wp2_with fail
  rw [rounds_succ]
  go_wp2_with fail
  refine (numbers_skip (HSL.out.turn (T1.out.alloc _)) (by have := HLW.out; omega) HSA.out (HL0.out.turn (T1.out.alloc _)) HNA.out).mono ?_
  rintro e u1 ⟨v1, rfl, ht⟩
  obtain ⟨x0, x1, x2⟩ := kcell ht
  have d0 := cell_turn ((T1.out.alloc _).trans ht) c0
  have U1 := Lib.hid ((T1.out.alloc _).trans ht)
  clear ht x1 x2
  go_wp2_with fail
  go_quiet (fail)
  generalize hq : World.drewN u1 _ = q2
  have T2 : Hid (Turn Nn w q2) := by rw [← hq]; exact Lib.hid (U1.out.drewN _)
  clear hq x0 d0
  go_wp2_with fail
  rw [rounds_succ]
  go_wp2_with fail
  refine (numbers_skip (HSL.out.turn (T2.out.alloc _)) (by have := HLW.out; omega) HSA.out (HL0.out.turn (T2.out.alloc _)) HNA.out).mono ?_
  rintro e u2 ⟨v2, rfl, ht⟩
  obtain ⟨x0, x1, x2⟩ := kcell ht
  have d0 := cell_turn ((T2.out.alloc _).trans ht) c0
  have U2 := Lib.hid ((T2.out.alloc _).trans ht)
  clear ht x1 x2
  go_wp2_with fail
  go_quiet (fail)
  generalize hq : World.drewN u2 _ = q3
  have T3 : Hid (Turn Nn w q3) := by rw [← hq]; exact Lib.hid (U2.out.drewN _)
  clear hq x0 d0
  go_wp2_with fail
  rw [rounds_succ]
  go_wp2_with fail
  refine (numbers_skip (HSL.out.turn (T3.out.alloc _)) (by have := HLW.out; omega) HSA.out (HL0.out.turn (T3.out.alloc _)) HNA.out).mono ?_
  rintro e u3 ⟨v3, rfl, ht⟩
  obtain ⟨x0, x1, x2⟩ := kcell ht
  have d0 := cell_turn ((T3.out.alloc _).trans ht) c0
  have U3 := Lib.hid ((T3.out.alloc _).trans ht)
  clear ht x1 x2
  go_wp2_with fail
  go_quiet (fail)
  generalize hq : World.drewN u3 _ = q4
  have T4 : Hid (Turn Nn w q4) := by rw [← hq]; exact Lib.hid (U3.out.drewN _)
  clear hq x0 d0
  go_wp2_with fail
  rw [rounds_succ]
  go_wp2_with fail
  go_ret
  exact RPostV.err rfl T4.out.wide

set_option maxRecDepth 100000 in
set_option maxHeartbeats 16000000 in
theorem rturn_none2 {w0 w : World} {r : Nat} {s : ScriptD} {v : Value} {b o n cap : Nat} {A : List Bs} (h0 : Laid w0) (hb0 : Below w0.heap.size w0 w) (h : RAt w w0.heap.size r 2 s v) (hst : s.turns.length ≤ 4096) (hn : n = A.length + 1) (hc : ∀ i, i < n → w.cell? ⟨b, o + i, none⟩ = some (.string ⟨((wShow :: A)[i]?.getD []).toArray⟩)) (hcap : n ≤ cap)
    (hL : A.length ≤ 900000) (hs : ∀ i, i < A.length → (A[i]?.getD []).length ≤ 1000000) (hA : (numsL A).isSome = false) :
    Calls Tryz.prog 75 #[.pointer (some ⟨r, 0, none⟩), .slice (some ⟨b, o, none⟩) n cap] w (RPostV w w0.heap.size r 2 v (.error 5)) := by
  obtain ⟨pa, hs1, hs2, hsl⟩ := tail_run hc hn hcap
  have c0 : w.cell? ⟨b, o, none⟩ = some (.string ⟨#[115, 104, 111, 119]⟩) := hc 0 (by omega)
  have HSA := Lib.hid hs
  have HR0 := Lib.hid h
  have HB0 := Lib.hid hb0
  have HL0 := Lib.hid (h0.below hb0)
  have HLW := Lib.hid hL
  have HSL := Lib.hid hsl
  have HN := Lib.hid hn
  have HNA := Lib.hid hA
  have HST := Lib.hid hst
  have hpos : (1 : Int) ≤ (n : Int) := by omega
  clear hc hn hs h hb0 h0 hsl hA hL hst
  have i0 := kindsAt0
  have i1 := kindsAt1
  have i2 := kindsAt2
  have i3 := kindsAt3
  go_enter Tryz.func75, Tryz.ntmps75
  go_wp2_with fail
  refine (kinds_any _).mono ?_
  rintro e w1 ⟨rfl, hw1⟩
  have T0 : Hid (Turn Nn w w1) := by rw [hw1]; exact Lib.hid ((Turn.refl _ _).alloc _)
  clear hw1
  obtain ⟨q0, hq0⟩ : ∃ q, w1 = q := ⟨_, rfl⟩
  rw [hq0] at T0 ⊢
  clear hq0 w1
  go_wp2_with fail
  refine wp_loop_rounds 5 ?_
  rw [rounds_succ]
  go_wp2_with fail
  refine (numbers_skip (HSL.out.turn (T0.out.alloc _)) (by have := HLW.out; omega) HSA.out (HL0.out.turn (T0.out.alloc _)) HNA.out).mono ?_
  rintro e u0 ⟨v0, rfl, ht⟩
  obtain ⟨x0, x1, x2⟩ := kcell ht
  have d0 := cell_turn ((T0.out.alloc _).trans ht) c0
  have U0 := Lib.hid ((T0.out.alloc _).trans ht)
  clear ht x1 x2
  go_wp2_with fail
  go_quiet (fail)
  generalize hq : World.drewN u0 _ = q1
  have T1 : Hid (Turn Nn w q1) := by rw [← hq]; exact Lib.hid (U0.out.drewN _)
  clear hq x0 d0
  go_wp2_with fail
  rw [rounds_succ]
  go_wp2_with fail
  refine (numbers_skip (HSL.out.turn (T1.out.alloc _)) (by have := HLW.out; omega) HSA.out (HL0.out.turn (T1.out.alloc _)) HNA.out).mono ?_
  rintro e u1 ⟨v1, rfl, ht⟩
  obtain ⟨x0, x1, x2⟩ := kcell ht
  have d0 := cell_turn ((T1.out.alloc _).trans ht) c0
  have U1 := Lib.hid ((T1.out.alloc _).trans ht)
  clear ht x1 x2
  go_wp2_with fail
  go_quiet (fail)
  generalize hq : World.drewN u1 _ = q2
  have T2 : Hid (Turn Nn w q2) := by rw [← hq]; exact Lib.hid (U1.out.drewN _)
  clear hq x0 d0
  go_wp2_with fail
  rw [rounds_succ]
  go_wp2_with fail
  refine (numbers_skip (HSL.out.turn (T2.out.alloc _)) (by have := HLW.out; omega) HSA.out (HL0.out.turn (T2.out.alloc _)) HNA.out).mono ?_
  rintro e u2 ⟨v2, rfl, ht⟩
  obtain ⟨x0, x1, x2⟩ := kcell ht
  have d0 := cell_turn ((T2.out.alloc _).trans ht) c0
  have U2 := Lib.hid ((T2.out.alloc _).trans ht)
  clear ht x1 x2
  go_wp2_with fail
  go_quiet (fail)
  generalize hq : World.drewN u2 _ = q3
  have T3 : Hid (Turn Nn w q3) := by rw [← hq]; exact Lib.hid (U2.out.drewN _)
  clear hq x0 d0
  go_wp2_with fail
  rw [rounds_succ]
  go_wp2_with fail
  refine (numbers_skip (HSL.out.turn (T3.out.alloc _)) (by have := HLW.out; omega) HSA.out (HL0.out.turn (T3.out.alloc _)) HNA.out).mono ?_
  rintro e u3 ⟨v3, rfl, ht⟩
  obtain ⟨x0, x1, x2⟩ := kcell ht
  have d0 := cell_turn ((T3.out.alloc _).trans ht) c0
  have U3 := Lib.hid ((T3.out.alloc _).trans ht)
  clear ht x1 x2
  go_wp2_with fail
  go_quiet (fail)
  generalize hq : World.drewN u3 _ = q4
  have T4 : Hid (Turn Nn w q4) := by rw [← hq]; exact Lib.hid (U3.out.drewN _)
  clear hq x0 d0
  go_wp2_with fail
  rw [rounds_succ]
  go_wp2_with fail
  go_ret
  exact RPostV.err rfl T4.out.wide

set_option maxRecDepth 100000 in
set_option maxHeartbeats 16000000 in
theorem rturn_none3 {w0 w : World} {r : Nat} {s : ScriptD} {v : Value} {b o n cap : Nat} {A : List Bs} (h0 : Laid w0) (hb0 : Below w0.heap.size w0 w) (h : RAt w w0.heap.size r 2 s v) (hst : s.turns.length ≤ 4096) (hn : n = A.length + 1) (hc : ∀ i, i < n → w.cell? ⟨b, o + i, none⟩ = some (.string ⟨((wRows :: A)[i]?.getD []).toArray⟩)) (hcap : n ≤ cap)
    (hL : A.length ≤ 900000) (hs : ∀ i, i < A.length → (A[i]?.getD []).length ≤ 1000000) (hA : (numsL A).isSome = false) :
    Calls Tryz.prog 75 #[.pointer (some ⟨r, 0, none⟩), .slice (some ⟨b, o, none⟩) n cap] w (RPostV w w0.heap.size r 2 v (.error 5)) := by
  obtain ⟨pa, hs1, hs2, hsl⟩ := tail_run hc hn hcap
  have c0 : w.cell? ⟨b, o, none⟩ = some (.string ⟨#[114, 111, 119, 115]⟩) := hc 0 (by omega)
  have HSA := Lib.hid hs
  have HR0 := Lib.hid h
  have HB0 := Lib.hid hb0
  have HL0 := Lib.hid (h0.below hb0)
  have HLW := Lib.hid hL
  have HSL := Lib.hid hsl
  have HN := Lib.hid hn
  have HNA := Lib.hid hA
  have HST := Lib.hid hst
  have hpos : (1 : Int) ≤ (n : Int) := by omega
  clear hc hn hs h hb0 h0 hsl hA hL hst
  have i0 := kindsAt0
  have i1 := kindsAt1
  have i2 := kindsAt2
  have i3 := kindsAt3
  go_enter Tryz.func75, Tryz.ntmps75
  go_wp2_with fail
  refine (kinds_any _).mono ?_
  rintro e w1 ⟨rfl, hw1⟩
  have T0 : Hid (Turn Nn w w1) := by rw [hw1]; exact Lib.hid ((Turn.refl _ _).alloc _)
  clear hw1
  obtain ⟨q0, hq0⟩ : ∃ q, w1 = q := ⟨_, rfl⟩
  rw [hq0] at T0 ⊢
  clear hq0 w1
  go_wp2_with fail
  refine wp_loop_rounds 5 ?_
  rw [rounds_succ]
  go_wp2_with fail
  refine (numbers_skip (HSL.out.turn (T0.out.alloc _)) (by have := HLW.out; omega) HSA.out (HL0.out.turn (T0.out.alloc _)) HNA.out).mono ?_
  rintro e u0 ⟨v0, rfl, ht⟩
  obtain ⟨x0, x1, x2⟩ := kcell ht
  have d0 := cell_turn ((T0.out.alloc _).trans ht) c0
  have U0 := Lib.hid ((T0.out.alloc _).trans ht)
  clear ht x1 x2
  go_wp2_with fail
  go_quiet (fail)
  generalize hq : World.drewN u0 _ = q1
  have T1 : Hid (Turn Nn w q1) := by rw [← hq]; exact Lib.hid (U0.out.drewN _)
  clear hq x0 d0
  go_wp2_with fail
  rw [rounds_succ]
  go_wp2_with fail
  refine (numbers_skip (HSL.out.turn (T1.out.alloc _)) (by have := HLW.out; omega) HSA.out (HL0.out.turn (T1.out.alloc _)) HNA.out).mono ?_
  rintro e u1 ⟨v1, rfl, ht⟩
  obtain ⟨x0, x1, x2⟩ := kcell ht
  have d0 := cell_turn ((T1.out.alloc _).trans ht) c0
  have U1 := Lib.hid ((T1.out.alloc _).trans ht)
  clear ht x1 x2
  go_wp2_with fail
  go_quiet (fail)
  generalize hq : World.drewN u1 _ = q2
  have T2 : Hid (Turn Nn w q2) := by rw [← hq]; exact Lib.hid (U1.out.drewN _)
  clear hq x0 d0
  go_wp2_with fail
  rw [rounds_succ]
  go_wp2_with fail
  refine (numbers_skip (HSL.out.turn (T2.out.alloc _)) (by have := HLW.out; omega) HSA.out (HL0.out.turn (T2.out.alloc _)) HNA.out).mono ?_
  rintro e u2 ⟨v2, rfl, ht⟩
  obtain ⟨x0, x1, x2⟩ := kcell ht
  have d0 := cell_turn ((T2.out.alloc _).trans ht) c0
  have U2 := Lib.hid ((T2.out.alloc _).trans ht)
  clear ht x1 x2
  go_wp2_with fail
  go_quiet (fail)
  generalize hq : World.drewN u2 _ = q3
  have T3 : Hid (Turn Nn w q3) := by rw [← hq]; exact Lib.hid (U2.out.drewN _)
  clear hq x0 d0
  go_wp2_with fail
  rw [rounds_succ]
  go_wp2_with fail
  refine (numbers_skip (HSL.out.turn (T3.out.alloc _)) (by have := HLW.out; omega) HSA.out (HL0.out.turn (T3.out.alloc _)) HNA.out).mono ?_
  rintro e u3 ⟨v3, rfl, ht⟩
  obtain ⟨x0, x1, x2⟩ := kcell ht
  have d0 := cell_turn ((T3.out.alloc _).trans ht) c0
  have U3 := Lib.hid ((T3.out.alloc _).trans ht)
  clear ht x1 x2
  go_wp2_with fail
  go_quiet (fail)
  generalize hq : World.drewN u3 _ = q4
  have T4 : Hid (Turn Nn w q4) := by rw [← hq]; exact Lib.hid (U3.out.drewN _)
  clear hq x0 d0
  go_wp2_with fail
  rw [rounds_succ]
  go_wp2_with fail
  go_ret
  exact RPostV.err rfl T4.out.wide

set_option maxRecDepth 100000 in
set_option maxHeartbeats 16000000 in
theorem rturn_0_0 {w0 w : World} {r : Nat} {s : ScriptD} {v : Value} {b o n cap : Nat} {A : List Bs} (h0 : Laid w0) (hb0 : Below w0.heap.size w0 w) (h : RAt w w0.heap.size r 2 s v) (hst : s.turns.length ≤ 4096) (hn : n = A.length + 1) (hc : ∀ i, i < n → w.cell? ⟨b, o + i, none⟩ = some (.string ⟨((wPick :: A)[i]?.getD []).toArray⟩)) (hcap : n ≤ cap)
    (hL : A.length ≤ 900000) (hs : ∀ i, i < A.length → (A[i]?.getD []).length ≤ 1000000) (hA : numsL A = some []) :
    Calls Tryz.prog 75 #[.pointer (some ⟨r, 0, none⟩), .slice (some ⟨b, o, none⟩) n cap] w (RPostV w w0.heap.size r 2 v (.error 5)) := by
  obtain ⟨pa, hs1, hs2, hsl⟩ := tail_run hc hn hcap
  have c0 : w.cell? ⟨b, o, none⟩ = some (.string ⟨#[112, 105, 99, 107]⟩) := hc 0 (by omega)
  have HSA := Lib.hid hs
  have HR0 := Lib.hid h
  have HB0 := Lib.hid hb0
  have HL0 := Lib.hid (h0.below hb0)
  have HLW := Lib.hid hL
  have HSL := Lib.hid hsl
  have HN := Lib.hid hn
  have HNA := Lib.hid hA
  have HST := Lib.hid hst
  have hpos : (1 : Int) ≤ (n : Int) := by omega
  clear hc hn hs h hb0 h0 hsl hA hL hst
  have i0 := kindsAt0
  have i1 := kindsAt1
  have i2 := kindsAt2
  have i3 := kindsAt3
  go_enter Tryz.func75, Tryz.ntmps75
  go_wp2_with fail
  refine (kinds_any _).mono ?_
  rintro e w1 ⟨rfl, hw1⟩
  have T0 : Hid (Turn Nn w w1) := by rw [hw1]; exact Lib.hid ((Turn.refl _ _).alloc _)
  clear hw1
  obtain ⟨q0, hq0⟩ : ∃ q, w1 = q := ⟨_, rfl⟩
  rw [hq0] at T0 ⊢
  clear hq0 w1
  go_wp2_with fail
  refine wp_loop_rounds 5 ?_
  rw [rounds_succ]
  go_wp2_with fail
  refine (numbers_some HNA.out (HSL.out.turn (T0.out.alloc _)) (by have := HLW.out; omega) HSA.out (HL0.out.turn (T0.out.alloc _))).mono ?_
  rintro e w2 ⟨pa2, cap2, rfl, hown, ht2⟩
  obtain ⟨x0, x1, x2⟩ := kcell ht2
  have d0 := cell_turn ((T0.out.alloc _).trans ht2) c0
  have T2a := Lib.hid ((T0.out.alloc _).trans ht2)
  clear hown
  clear ht2 c0
  go_wp2_with fail
  go_quiet (fail)
  generalize hw3 : World.drewN w2 _ = w3
  have t3 : Turn Nn w2 w3 := hw3 ▸ (Turn.refl Nn w2).drewN _
  have x1 := cell_turn t3 x1
  have x2 := cell_turn t3 x2
  clear x0
  have T3a := Lib.hid (T2a.out.trans t3)
  have hkl := World.block_lt_of_cell? w3 _ x1
  clear hw3 t3 d0
  go_wp2_with fail
  refine wp_loop_rounds 3 ?_
  rw [rounds_succ]
  go_wp2_with fail
  go_ret
  exact RPostV.err rfl (((T3a.out.alloc _).alloc _).alloc _).wide

set_option maxRecDepth 100000 in
set_option maxHeartbeats 16000000 in
theorem rturn_0_1 {w0 w : World} {r : Nat} {s : ScriptD} {v : Value} {b o n cap : Nat} {A : List Bs} {a : Nat} (h0 : Laid w0) (hb0 : Below w0.heap.size w0 w) (h : RAt w w0.heap.size r 2 s v) (hst : s.turns.length ≤ 4096) (hn : n = A.length + 1) (hc : ∀ i, i < n → w.cell? ⟨b, o + i, none⟩ = some (.string ⟨((wPick :: A)[i]?.getD []).toArray⟩)) (hcap : n ≤ cap)
    (hL : A.length ≤ 900000) (hs : ∀ i, i < A.length → (A[i]?.getD []).length ≤ 1000000) (hA : numsL A = some [a]) :
    Calls Tryz.prog 75 #[.pointer (some ⟨r, 0, none⟩), .slice (some ⟨b, o, none⟩) n cap] w (RPostV w w0.heap.size r 2 v (.error 5)) := by
  obtain ⟨pa, hs1, hs2, hsl⟩ := tail_run hc hn hcap
  have c0 : w.cell? ⟨b, o, none⟩ = some (.string ⟨#[112, 105, 99, 107]⟩) := hc 0 (by omega)
  have HSA := Lib.hid hs
  have HR0 := Lib.hid h
  have HB0 := Lib.hid hb0
  have HL0 := Lib.hid (h0.below hb0)
  have HLW := Lib.hid hL
  have HSL := Lib.hid hsl
  have HN := Lib.hid hn
  have HNA := Lib.hid hA
  have HST := Lib.hid hst
  have hpos : (1 : Int) ≤ (n : Int) := by omega
  clear hc hn hs h hb0 h0 hsl hA hL hst
  have i0 := kindsAt0
  have i1 := kindsAt1
  have i2 := kindsAt2
  have i3 := kindsAt3
  go_enter Tryz.func75, Tryz.ntmps75
  go_wp2_with fail
  refine (kinds_any _).mono ?_
  rintro e w1 ⟨rfl, hw1⟩
  have T0 : Hid (Turn Nn w w1) := by rw [hw1]; exact Lib.hid ((Turn.refl _ _).alloc _)
  clear hw1
  obtain ⟨q0, hq0⟩ : ∃ q, w1 = q := ⟨_, rfl⟩
  rw [hq0] at T0 ⊢
  clear hq0 w1
  go_wp2_with fail
  refine wp_loop_rounds 5 ?_
  rw [rounds_succ]
  go_wp2_with fail
  refine (numbers_some HNA.out (HSL.out.turn (T0.out.alloc _)) (by have := HLW.out; omega) HSA.out (HL0.out.turn (T0.out.alloc _))).mono ?_
  rintro e w2 ⟨pa2, cap2, rfl, hown, ht2⟩
  obtain ⟨x0, x1, x2⟩ := kcell ht2
  have d0 := cell_turn ((T0.out.alloc _).trans ht2) c0
  have T2a := Lib.hid ((T0.out.alloc _).trans ht2)
  obtain ⟨g, hgB, rfl, hcap2, hgc⟩ := ownI hown (by simp)
  have g0 : w2.cell? ⟨g, 0, none⟩ = some (.int .i64 (a : Nat)) := hgc 0 (by simp)
  have hcap3 : (1 : Int) ≤ (cap2 : Int) := by simp at hcap2; omega
  obtain ⟨q20, l0a, l0b, hq0⟩ := tail104 g 0 1 0 (cap2 - 0) rfl
  clear hq0
  simp only [Nat.sub_zero] at l0a l0b
  clear hown hgc hgB hcap2
  clear ht2 c0
  go_wp2_with fail
  go_quiet (fail)
  generalize hw3 : World.drewN w2 _ = w3
  have t3 : Turn Nn w2 w3 := hw3 ▸ (Turn.refl Nn w2).drewN _
  have x1 := cell_turn t3 x1
  have x2 := cell_turn t3 x2
  have g0 := cell_turn t3 g0
  clear x0
  have T3a := Lib.hid (T2a.out.trans t3)
  have hkl := World.block_lt_of_cell? w3 _ x1
  have hgl : g < w3.heap.size := World.block_lt_of_cell? w3 _ g0
  clear hw3 t3 d0
  go_wp2_with fail
  refine wp_loop_rounds 3 ?_
  rw [rounds_succ]
  go_wp2_with fail
  generalize hw4 : World.alloc (World.alloc (World.alloc w3 _) _) _ = w4
  obtain ⟨b1, b2, b3, t4⟩ := alloc3 hw4
  have T4a := Lib.hid (T3a.out.trans t4)
  have g0 := cell_turn t4 g0
  have htl := heap_lt b3
  clear hw4
  have y0 := cell_blk (o := 0) b3
  have y1 := cell_blk (o := 1) b3
  have z0 := cell_blk (o := 2) b2
  have z1 := cell_blk (o := 3) b2
  have f1 := frozen_blk (o := 1) b1
  have t0 := cell_blk (o := 0) b1
  have t1 := cell_blk (o := 1) b1
  have t2 := cell_blk (o := 2) b1
  simp only [List.getElem?_toArray, List.getElem?_cons_succ, List.getElem?_cons_zero] at y0 y1 z0 z1 t0 t1 t2
  clear x1 x2
  go_region
  generalize hw5 : World.drew (World.setCell w4 _ _) = w5
  have b15 := setd hw5 b1
  have b25 := (setd_ne hw5 (k := w3.heap.size + 1) (by omega)).trans b2
  have bg5 : w5.heap[g]? = w4.heap[g]? := setd_ne hw5 (by omega)
  have HS5 := Lib.hid (setd_size hw5)
  have T5a := Lib.hid (setd_turn hw5 T4a.out (by have := T3a.out.size; omega))
  clear hw5 y0 y1 z0 z1 f1 t0 t1 t2 bg5 g0
  have z0 := cell_blk (o := 2) b25
  have z1 := cell_blk (o := 3) b25
  simp only [List.getElem?_toArray, List.getElem?_cons_succ, List.getElem?_cons_zero] at z0 z1
  have h5s : w3.heap.size < w5.heap.size := heap_lt b15
  go_wp2_with fail
  rw [rounds_succ]
  go_wp2_with fail
  go_ret
  exact RPostV.err rfl (T5a.out.alloc _).wide

set_option maxRecDepth 100000 in
set_option maxHeartbeats 16000000 in
theorem rturn_0_2 {w0 w : World} {r : Nat} {s : ScriptD} {v : Value} {b o n cap : Nat} {A : List Bs} {a c : Nat} (h0 : Laid w0) (hb0 : Below w0.heap.size w0 w) (h : RAt w w0.heap.size r 2 s v) (hst : s.turns.length ≤ 4096) (hn : n = A.length + 1) (hc : ∀ i, i < n → w.cell? ⟨b, o + i, none⟩ = some (.string ⟨((wPick :: A)[i]?.getD []).toArray⟩)) (hcap : n ≤ cap)
    (hL : A.length ≤ 900000) (hs : ∀ i, i < A.length → (A[i]?.getD []).length ≤ 1000000) (hA : numsL A = some [a, c]) :
    Calls Tryz.prog 75 #[.pointer (some ⟨r, 0, none⟩), .slice (some ⟨b, o, none⟩) n cap] w (RPostV w w0.heap.size r 2 v (addTurn s ⟨0, (a : Nat), (c : Nat)⟩)) := by
  obtain ⟨pa, hs1, hs2, hsl⟩ := tail_run hc hn hcap
  have c0 : w.cell? ⟨b, o, none⟩ = some (.string ⟨#[112, 105, 99, 107]⟩) := hc 0 (by omega)
  have HSA := Lib.hid hs
  have HR0 := Lib.hid h
  have HB0 := Lib.hid hb0
  have HL0 := Lib.hid (h0.below hb0)
  have HLW := Lib.hid hL
  have HSL := Lib.hid hsl
  have HN := Lib.hid hn
  have HNA := Lib.hid hA
  have HST := Lib.hid hst
  have hpos : (1 : Int) ≤ (n : Int) := by omega
  clear hc hn hs h hb0 h0 hsl hA hL hst
  have i0 := kindsAt0
  have i1 := kindsAt1
  have i2 := kindsAt2
  have i3 := kindsAt3
  go_enter Tryz.func75, Tryz.ntmps75
  go_wp2_with fail
  refine (kinds_any _).mono ?_
  rintro e w1 ⟨rfl, hw1⟩
  have T0 : Hid (Turn Nn w w1) := by rw [hw1]; exact Lib.hid ((Turn.refl _ _).alloc _)
  clear hw1
  obtain ⟨q0, hq0⟩ : ∃ q, w1 = q := ⟨_, rfl⟩
  rw [hq0] at T0 ⊢
  clear hq0 w1
  go_wp2_with fail
  refine wp_loop_rounds 5 ?_
  rw [rounds_succ]
  go_wp2_with fail
  refine (numbers_some HNA.out (HSL.out.turn (T0.out.alloc _)) (by have := HLW.out; omega) HSA.out (HL0.out.turn (T0.out.alloc _))).mono ?_
  rintro e w2 ⟨pa2, cap2, rfl, hown, ht2⟩
  obtain ⟨x0, x1, x2⟩ := kcell ht2
  have d0 := cell_turn ((T0.out.alloc _).trans ht2) c0
  have T2a := Lib.hid ((T0.out.alloc _).trans ht2)
  obtain ⟨g, hgB, rfl, hcap2, hgc⟩ := ownI hown (by simp)
  have g0 : w2.cell? ⟨g, 0, none⟩ = some (.int .i64 (a : Nat)) := hgc 0 (by simp)
  have g1 : w2.cell? ⟨g, 1, none⟩ = some (.int .i64 (c : Nat)) := hgc 1 (by simp)
  have hcap3 : (2 : Int) ≤ (cap2 : Int) := by simp at hcap2; omega
  obtain ⟨q20, l0a, l0b, hq0⟩ := tail104 g 0 2 1 (cap2 - 0) rfl
  have hq0 := hq0 (by omega)
  subst hq0
  obtain ⟨q21, l1a, l1b, hq1⟩ := tail104 g 1 1 0 (cap2 - 1) rfl
  clear hq1
  simp only [Nat.sub_zero] at l0a l0b
  clear hown hgc hgB hcap2
  clear ht2 c0
  go_wp2_with fail
  go_quiet (fail)
  generalize hw3 : World.drewN w2 _ = w3
  have t3 : Turn Nn w2 w3 := hw3 ▸ (Turn.refl Nn w2).drewN _
  have x1 := cell_turn t3 x1
  have x2 := cell_turn t3 x2
  have g0 := cell_turn t3 g0
  have g1 := cell_turn t3 g1
  clear x0
  have T3a := Lib.hid (T2a.out.trans t3)
  have hkl := World.block_lt_of_cell? w3 _ x1
  have hgl : g < w3.heap.size := World.block_lt_of_cell? w3 _ g0
  clear hw3 t3 d0
  go_wp2_with fail
  refine wp_loop_rounds 3 ?_
  rw [rounds_succ]
  go_wp2_with fail
  generalize hw4 : World.alloc (World.alloc (World.alloc w3 _) _) _ = w4
  obtain ⟨b1, b2, b3, t4⟩ := alloc3 hw4
  have T4a := Lib.hid (T3a.out.trans t4)
  have g0 := cell_turn t4 g0
  have g1 := cell_turn t4 g1
  have htl := heap_lt b3
  clear hw4
  have y0 := cell_blk (o := 0) b3
  have y1 := cell_blk (o := 1) b3
  have z0 := cell_blk (o := 2) b2
  have z1 := cell_blk (o := 3) b2
  have f1 := frozen_blk (o := 1) b1
  have t0 := cell_blk (o := 0) b1
  have t1 := cell_blk (o := 1) b1
  have t2 := cell_blk (o := 2) b1
  simp only [List.getElem?_toArray, List.getElem?_cons_succ, List.getElem?_cons_zero] at y0 y1 z0 z1 t0 t1 t2
  clear x1 x2
  go_region
  generalize hw5 : World.drew (World.setCell w4 _ _) = w5
  have b15 := setd hw5 b1
  have b25 := (setd_ne hw5 (k := w3.heap.size + 1) (by omega)).trans b2
  have bg5 : w5.heap[g]? = w4.heap[g]? := setd_ne hw5 (by omega)
  have HS5 := Lib.hid (setd_size hw5)
  have g1 := (World.cell?_of_block bg5).trans g1
  have T5a := Lib.hid (setd_turn hw5 T4a.out (by have := T3a.out.size; omega))
  clear hw5 y0 y1 z0 z1 f1 t0 t1 t2 bg5 g0
  have z0 := cell_blk (o := 2) b25
  have z1 := cell_blk (o := 3) b25
  simp only [List.getElem?_toArray, List.getElem?_cons_succ, List.getElem?_cons_zero] at z0 z1
  have h5s : w3.heap.size < w5.heap.size := heap_lt b15
  go_wp2_with fail
  rw [rounds_succ]
  go_wp2_with fail
  generalize hw6 : World.alloc w5 _ = w6
  obtain ⟨c1, t6⟩ := alloc1 hw6
  have T6a := Lib.hid (T5a.out.trans t6)
  have h5g : g < w5.heap.size := World.block_lt_of_cell? w5 _ g1
  have g1 := cell_turn t6 g1
  have b16 := (t6.block _ (heap_lt b15) (fun h => h)).trans b15
  clear hw6 t6 z0 z1
  have y0 := cell_blk (o := 0) c1
  have y1 := cell_blk (o := 1) c1
  have f1 := frozen_blk (o := 2) b16
  have t0 := cell_blk (o := 0) b16
  have t1 := cell_blk (o := 1) b16
  have t2 := cell_blk (o := 2) b16
  simp only [List.getElem?_toArray, List.getElem?_cons_succ, List.getElem?_cons_zero, List.setIfInBounds_toArray, List.set_cons_succ, List.set_cons_zero] at y0 y1 t0 t1 t2
  go_region
  generalize hw7 : World.drew (World.setCell w6 _ _) = w7
  have b15 := setd hw7 b16
  have T7a := Lib.hid (setd_turn hw7 T6a.out (by have := T3a.out.size; omega))
  clear hw7 y0 y1 f1 t0 t1 t2 g1
  go_wp2_with fail
  rw [rounds_succ]
  have t0 := cell_blk (o := 0) b15
  have t1 := cell_blk (o := 1) b15
  have t2 := cell_blk (o := 2) b15
  simp only [List.getElem?_toArray, List.getElem?_cons_succ, List.getElem?_cons_zero, List.setIfInBounds_toArray, List.set_cons_succ, List.set_cons_zero] at t0 t1 t2
  go_wp2_with fail
  have HC := Lib.hid (turn_any 0 (a : Nat) (c : Nat) w7)
  cases hok : turnOk ⟨0, (a : Nat), (c : Nat)⟩ with
  | false =>
    rw [hok] at HC
    have HR : Hid (addTurn s ⟨0, (a : Nat), (c : Nat)⟩ = .error 2) := Lib.hid (by unfold addTurn; rw [if_pos hok])
    clear hok
    refine HC.out.mono ?_
    rintro e w8 ⟨rfl, t8⟩
    have T8 := Lib.hid (T7a.out.trans t8)
    clear t8
    go_wp2_with fail
    go_ret
    exact RPostV.err HR.out T8.out.wide
  | true =>
    rw [hok] at HC
    by_cases hful : 4096 ≤ s.turns.length
    · have HR : Hid (addTurn s ⟨0, (a : Nat), (c : Nat)⟩ = .error 4) := Lib.hid (by unfold addTurn; rw [if_neg (by rw [hok]; simp), if_pos hful])
      clear hok
      refine HC.out.mono ?_
      rintro e w8 ⟨rfl, t8⟩
      have T8 := Lib.hid (T7a.out.trans t8)
      obtain ⟨pv, cv, hpv⟩ : ∃ pv cv, v = .slice pv s.turns.length cv := by
        rcases HR0.out.own.2 with ⟨e, e2⟩ | ⟨_, _, _, e, _⟩
        · exact ⟨none, 0, by rw [e, e2]⟩
        · exact ⟨_, _, e⟩
      have B8 := (T8.out.block r (heap_lt HR0.out.blk) (fun h => h)).trans HR0.out.blk
      have k5 := cell_blk (o := 5) B8
      simp only [rcells, List.getElem?_toArray, List.getElem?_cons_succ, List.getElem?_cons_zero] at k5
      rw [hpv] at k5
      have hful : (4096 : Int) ≤ (s.turns.length : Int) := by omega
      have HPV := Lib.hid hpv
      clear t8 B8 hpv
      go_wp2_with fail
      go_ret
      exact RPostV.err HR.out T8.out.wide
    · have HR : Hid (addTurn s ⟨0, (a : Nat), (c : Nat)⟩ = .ok { s with turns := s.turns ++ [⟨0, (a : Nat), (c : Nat)⟩] }) := Lib.hid (by unfold addTurn; rw [if_neg (by rw [hok]; simp), if_neg hful])
      clear hok
      refine HC.out.mono ?_
      rintro e w8 ⟨rfl, t8⟩
      have T8 := Lib.hid (T7a.out.trans t8)
      have t0 := cell_turn t8 t0
      have t1 := cell_turn t8 t1
      have t2 := cell_turn t8 t2
      obtain ⟨pv, cv, hpv⟩ : ∃ pv cv, v = .slice pv s.turns.length cv := by
        rcases HR0.out.own.2 with ⟨e, e2⟩ | ⟨_, _, _, e, _⟩
        · exact ⟨none, 0, by rw [e, e2]⟩
        · exact ⟨_, _, e⟩
      have B8 := (T8.out.block r (heap_lt HR0.out.blk) (fun h => h)).trans HR0.out.blk
      have k5 := cell_blk (o := 5) B8
      simp only [rcells, List.getElem?_toArray, List.getElem?_cons_succ, List.getElem?_cons_zero] at k5
      have HPV := Lib.hid hpv
      have HK5 := Lib.hid k5
      rw [hpv] at k5
      have hful : ¬ (4096 : Int) ≤ (s.turns.length : Int) := by omega
      clear t8 B8 hpv
      go_wp2_with fail
      clear k5
      refine held_begin (STurn w3.heap.size 0 (a : Nat) (c : Nat)) (by kernel_rfl) ?_
      generalize hwd : World.drew w8 = wd
      obtain ⟨v', W', hrun, e5, e6, eT, e7, e8, e9⟩ := push_turn (k := 0) (a := (a : Nat)) (c := (c : Nat)) HR0.out HB0.out T8.out hwd HST.out 24
      obtain ⟨av, nv, cv', rfl⟩ : ∃ av nv cv', v' = .slice av nv cv' := by
        rcases e7.own.2 with ⟨e, _⟩ | ⟨_, _, _, e, _⟩
        · exact ⟨_, _, _, e⟩
        · exact ⟨_, _, _, e⟩
      have hS : STurn w3.heap.size 0 (a : Nat) (c : Nat) wd := by rw [← hwd]; exact ⟨t0, t1, t2⟩
      have ec5 : wd.cell? ⟨r, 5, none⟩ = some v := by rw [← hwd]; exact HK5.out
      have hrl : r < wd.heap.size := World.block_lt_of_cell? wd _ ec5
      have htl2 : w3.heap.size < wd.heap.size := World.block_lt_of_cell? wd _ hS.1
      obtain ⟨eT1, eT2⟩ := eT w3.heap.size T3a.out.size (by rw [← hwd] at htl2; exact htl2)
      have t9 : Turn Nn wd (wd.alloc (.cells #[.int .i64 0, .int .i64 (a : Nat), .int .i64 (c : Nat)] 60)) := (Turn.refl _ _).alloc _
      have HSA2 : Hid (STurn w3.heap.size 0 (a : Nat) (c : Nat) (wd.alloc (.cells #[.int .i64 0, .int .i64 (a : Nat), .int .i64 (c : Nat)] 60))) := Lib.hid (by
        obtain ⟨y2, y3, y4⟩ := hS
        exact ⟨cell_turn t9 y2, cell_turn t9 y3, cell_turn t9 y4⟩)
      have HSW : Hid (STurn w3.heap.size 0 (a : Nat) (c : Nat) W') := Lib.hid (by
        obtain ⟨y2, y3, y4⟩ := hS
        exact ⟨(World.cell?_of_block eT1).trans y2, (World.cell?_of_block eT1).trans y3, (World.cell?_of_block eT1).trans y4⟩)
      have HSF : Hid (STurn w3.heap.size 0 (a : Nat) (c : Nat) (W'.setCell ⟨r, 5, none⟩ (.slice av nv cv'))) := Lib.hid (by
        obtain ⟨y2, y3, y4⟩ := hS
        exact ⟨(World.cell?_of_block eT2).trans y2, (World.cell?_of_block eT2).trans y3, (World.cell?_of_block eT2).trans y4⟩)
      have EC5a := Lib.hid (cell_turn t9 ec5)
      have EC5 := Lib.hid ec5
      have HRUN := Lib.hid hrun
      have E5 := Lib.hid e5
      have E6 := Lib.hid e6
      have E7 := Lib.hid e7
      have E8 := Lib.hid e8
      have E9 := Lib.hid e9
      have HSS := Lib.hid hS
      clear hwd hrun e5 e6 e7 e8 e9 t0 t1 t2 b15 eT eT1 eT2 t9 ec5 hS
      refine held_take 0 ?_ rfl (by kernel_rfl) (by kernel_rfl) (by kernel_rfl) (fun _ _ _ h => h) (Or.inl ⟨by kernel_rfl, ?_⟩) HSS.out ?_
      rotate_left 1
      · intro u hu; obtain ⟨y2, y3, y4⟩ := hu; go_simp; first | done | with_reducible rfl
      try simp only [Act.put, List.getElem_toArray, List.getElem_cons_succ, List.getElem_cons_zero, List.setIfInBounds_toArray, List.set_cons_succ, List.set_cons_zero]
      refine held_take 1 ?_ rfl (by kernel_rfl) (by kernel_rfl) (by kernel_rfl) (fun _ _ _ h => h) (Or.inl ⟨by kernel_rfl, ?_⟩) HSS.out ?_
      rotate_left 1
      · intro u hu; obtain ⟨y2, y3, y4⟩ := hu; go_simp; first | done | with_reducible rfl
      try simp only [Act.put, List.getElem_toArray, List.getElem_cons_succ, List.getElem_cons_zero, List.setIfInBounds_toArray, List.set_cons_succ, List.set_cons_zero]
      refine held_take 2 ?_ rfl (by kernel_rfl) (by kernel_rfl) (by kernel_rfl) (fun _ _ _ h => h) (Or.inl ⟨by kernel_rfl, ?_⟩) HSS.out ?_
      rotate_left 1
      · intro u hu; obtain ⟨y2, y3, y4⟩ := hu; go_simp; first | done | with_reducible rfl
      try simp only [Act.put, List.getElem_toArray, List.getElem_cons_succ, List.getElem_cons_zero, List.setIfInBounds_toArray, List.set_cons_succ, List.set_cons_zero]
      refine held_take 3 ?_ rfl (by kernel_rfl) (by kernel_rfl) (by kernel_rfl) (fun _ _ _ h => h) (Or.inl ⟨by kernel_rfl, ?_⟩) HSS.out ?_
      rotate_left 1
      · intro u hu; obtain ⟨y2, y3, y4⟩ := hu; go_simp; first | done | with_reducible rfl
      try simp only [Act.put, List.getElem_toArray, List.getElem_cons_succ, List.getElem_cons_zero, List.setIfInBounds_toArray, List.set_cons_succ, List.set_cons_zero]
      refine held_take 4 ?_ rfl (by kernel_rfl) (by kernel_rfl) (by kernel_rfl) (fun _ _ _ h => h) (Or.inl ⟨by kernel_rfl, ?_⟩) HSS.out ?_
      rotate_left 1
      · intro u hu; obtain ⟨y2, y3, y4⟩ := hu; go_simp; first | done | with_reducible rfl
      try simp only [Act.put, List.getElem_toArray, List.getElem_cons_succ, List.getElem_cons_zero, List.setIfInBounds_toArray, List.set_cons_succ, List.set_cons_zero]
      refine held_take 6 ?_ rfl (by kernel_rfl) (by kernel_rfl) (by kernel_rfl) (fun _ _ _ h => h) (Or.inl ⟨by kernel_rfl, ?_⟩) HSS.out ?_
      rotate_left 1
      · intro u hu; obtain ⟨y2, y3, y4⟩ := hu; go_simp; first | done | with_reducible rfl
      try simp only [Act.put, List.getElem_toArray, List.getElem_cons_succ, List.getElem_cons_zero, List.setIfInBounds_toArray, List.set_cons_succ, List.set_cons_zero]
      refine held_pair 5 7 (by kernel_rfl) rfl rfl (by kernel_rfl) (by kernel_rfl) (fun Ka hKa => ?_) (fun Ka hKa => ?_)
      · have e5 := EC5.out
        go_simp
        refine hKa _ _ HSS.out ?_
        clear hKa Ka e5
        try simp only [Act.put, List.getElem_toArray, List.getElem_cons_succ, List.getElem_cons_zero, List.setIfInBounds_toArray, List.set_cons_succ, List.set_cons_zero]
        refine held_one 7 (by kernel_rfl) rfl (by kernel_rfl) (fun Kd hKd => ?_)
        go_simp
        refine hKd _ _ HSA2.out ?_
        clear hKd Kd
        try simp only [Act.put, List.getElem_toArray, List.getElem_cons_succ, List.getElem_cons_zero, List.setIfInBounds_toArray, List.set_cons_succ, List.set_cons_zero]
        refine held_one 8 (by kernel_rfl) rfl (by kernel_rfl) (fun Kb hKb => ?_)
        refine oper_append_eq _ _ 24 rfl _ _ rfl rfl HRUN.out ?_
        refine hKb _ _ HSW.out ?_
        clear hKb Kb
        try simp only [Act.put, List.getElem_toArray, List.getElem_cons_succ, List.getElem_cons_zero, List.setIfInBounds_toArray, List.set_cons_succ, List.set_cons_zero]
        refine held_take 9 ?_ rfl (by kernel_rfl) (by kernel_rfl) (by kernel_rfl) (fun _ _ _ h => h) (Or.inl ⟨by kernel_rfl, ?_⟩) HSW.out ?_
        rotate_left 1
        · intro u hu; obtain ⟨y2, y3, y4⟩ := hu; go_simp; first | done | with_reducible rfl
        try simp only [Act.put, List.getElem_toArray, List.getElem_cons_succ, List.getElem_cons_zero, List.setIfInBounds_toArray, List.set_cons_succ, List.set_cons_zero]
        refine held_take 10 ?_ rfl (by kernel_rfl) (by kernel_rfl) (by kernel_rfl) (fun _ _ _ h => h) (Or.inl ⟨by kernel_rfl, ?_⟩) HSW.out ?_
        rotate_left 1
        · intro u hu; obtain ⟨y2, y3, y4⟩ := hu; go_simp; first | done | with_reducible rfl
        try simp only [Act.put, List.getElem_toArray, List.getElem_cons_succ, List.getElem_cons_zero, List.setIfInBounds_toArray, List.set_cons_succ, List.set_cons_zero]
        refine held_take 11 ?_ rfl (by kernel_rfl) (by kernel_rfl) (by kernel_rfl) (fun _ _ _ h => h) (Or.inl ⟨by kernel_rfl, ?_⟩) HSW.out ?_
        rotate_left 1
        · intro u hu; obtain ⟨y2, y3, y4⟩ := hu; go_simp; first | done | with_reducible rfl
        try simp only [Act.put, List.getElem_toArray, List.getElem_cons_succ, List.getElem_cons_zero, List.setIfInBounds_toArray, List.set_cons_succ, List.set_cons_zero]
        refine held_one 12 (by kernel_rfl) rfl (by kernel_rfl) (fun Kc hKc => ?_)
        have e5 := E5.out
        have e6 := E6.out
        go_simp
        refine hKc _ _ HSF.out ?_
        clear hKc Kc e5 e6
        try simp only [Act.put, List.getElem_toArray, List.getElem_cons_succ, List.getElem_cons_zero, List.setIfInBounds_toArray, List.set_cons_succ, List.set_cons_zero]
        refine wpAnyH_done (by kernel_rfl) ?_ _
        go_wp2_with fail
        go_ret
        exact RPostV.good HR.out E7.out E8.out E9.out
      · go_simp
        refine hKa _ _ HSA2.out ?_
        clear hKa Ka
        try simp only [Act.put, List.getElem_toArray, List.getElem_cons_succ, List.getElem_cons_zero, List.setIfInBounds_toArray, List.set_cons_succ, List.set_cons_zero]
        refine held_one 5 (by kernel_rfl) rfl (by kernel_rfl) (fun Kd hKd => ?_)
        have e5 := EC5a.out
        go_simp
        refine hKd _ _ HSA2.out ?_
        clear hKd Kd e5
        try simp only [Act.put, List.getElem_toArray, List.getElem_cons_succ, List.getElem_cons_zero, List.setIfInBounds_toArray, List.set_cons_succ, List.set_cons_zero]
        refine held_one 8 (by kernel_rfl) rfl (by kernel_rfl) (fun Kb hKb => ?_)
        refine oper_append_eq _ _ 24 rfl _ _ rfl rfl HRUN.out ?_
        refine hKb _ _ HSW.out ?_
        clear hKb Kb
        try simp only [Act.put, List.getElem_toArray, List.getElem_cons_succ, List.getElem_cons_zero, List.setIfInBounds_toArray, List.set_cons_succ, List.set_cons_zero]
        refine held_take 9 ?_ rfl (by kernel_rfl) (by kernel_rfl) (by kernel_rfl) (fun _ _ _ h => h) (Or.inl ⟨by kernel_rfl, ?_⟩) HSW.out ?_
        rotate_left 1
        · intro u hu; obtain ⟨y2, y3, y4⟩ := hu; go_simp; first | done | with_reducible rfl
        try simp only [Act.put, List.getElem_toArray, List.getElem_cons_succ, List.getElem_cons_zero, List.setIfInBounds_toArray, List.set_cons_succ, List.set_cons_zero]
        refine held_take 10 ?_ rfl (by kernel_rfl) (by kernel_rfl) (by kernel_rfl) (fun _ _ _ h => h) (Or.inl ⟨by kernel_rfl, ?_⟩) HSW.out ?_
        rotate_left 1
        · intro u hu; obtain ⟨y2, y3, y4⟩ := hu; go_simp; first | done | with_reducible rfl
        try simp only [Act.put, List.getElem_toArray, List.getElem_cons_succ, List.getElem_cons_zero, List.setIfInBounds_toArray, List.set_cons_succ, List.set_cons_zero]
        refine held_take 11 ?_ rfl (by kernel_rfl) (by kernel_rfl) (by kernel_rfl) (fun _ _ _ h => h) (Or.inl ⟨by kernel_rfl, ?_⟩) HSW.out ?_
        rotate_left 1
        · intro u hu; obtain ⟨y2, y3, y4⟩ := hu; go_simp; first | done | with_reducible rfl
        try simp only [Act.put, List.getElem_toArray, List.getElem_cons_succ, List.getElem_cons_zero, List.setIfInBounds_toArray, List.set_cons_succ, List.set_cons_zero]
        refine held_one 12 (by kernel_rfl) rfl (by kernel_rfl) (fun Kc hKc => ?_)
        have e5 := E5.out
        have e6 := E6.out
        go_simp
        refine hKc _ _ HSF.out ?_
        clear hKc Kc e5 e6
        try simp only [Act.put, List.getElem_toArray, List.getElem_cons_succ, List.getElem_cons_zero, List.setIfInBounds_toArray, List.set_cons_succ, List.set_cons_zero]
        refine wpAnyH_done (by kernel_rfl) ?_ _
        go_wp2_with fail
        go_ret
        exact RPostV.good HR.out E7.out E8.out E9.out

set_option maxRecDepth 100000 in
set_option maxHeartbeats 16000000 in
theorem rturn_0_long {w0 w : World} {r : Nat} {s : ScriptD} {v : Value} {b o n cap : Nat} {A : List Bs} {M : List Nat} (h0 : Laid w0) (hb0 : Below w0.heap.size w0 w) (h : RAt w w0.heap.size r 2 s v) (hst : s.turns.length ≤ 4096) (hn : n = A.length + 1) (hc : ∀ i, i < n → w.cell? ⟨b, o + i, none⟩ = some (.string ⟨((wPick :: A)[i]?.getD []).toArray⟩)) (hcap : n ≤ cap)
    (hL : A.length ≤ 900000) (hs : ∀ i, i < A.length → (A[i]?.getD []).length ≤ 1000000) (hA : numsL A = some M) (hM : 2 < M.length) :
    Calls Tryz.prog 75 #[.pointer (some ⟨r, 0, none⟩), .slice (some ⟨b, o, none⟩) n cap] w (RPostV w w0.heap.size r 2 v (.error 5)) := by
  obtain ⟨pa, hs1, hs2, hsl⟩ := tail_run hc hn hcap
  have c0 : w.cell? ⟨b, o, none⟩ = some (.string ⟨#[112, 105, 99, 107]⟩) := hc 0 (by omega)
  have HSA := Lib.hid hs
  have HR0 := Lib.hid h
  have HB0 := Lib.hid hb0
  have HL0 := Lib.hid (h0.below hb0)
  have HLW := Lib.hid hL
  have HSL := Lib.hid hsl
  have HN := Lib.hid hn
  have HNA := Lib.hid hA
  have HST := Lib.hid hst
  have hpos : (1 : Int) ≤ (n : Int) := by omega
  clear hc hn hs h hb0 h0 hsl hA hL hst
  have i0 := kindsAt0
  have i1 := kindsAt1
  have i2 := kindsAt2
  have i3 := kindsAt3
  go_enter Tryz.func75, Tryz.ntmps75
  go_wp2_with fail
  refine (kinds_any _).mono ?_
  rintro e w1 ⟨rfl, hw1⟩
  have T0 : Hid (Turn Nn w w1) := by rw [hw1]; exact Lib.hid ((Turn.refl _ _).alloc _)
  clear hw1
  obtain ⟨q0, hq0⟩ : ∃ q, w1 = q := ⟨_, rfl⟩
  rw [hq0] at T0 ⊢
  clear hq0 w1
  go_wp2_with fail
  refine wp_loop_rounds 5 ?_
  rw [rounds_succ]
  go_wp2_with fail
  refine (numbers_some HNA.out (HSL.out.turn (T0.out.alloc _)) (by have := HLW.out; omega) HSA.out (HL0.out.turn (T0.out.alloc _))).mono ?_
  rintro e w2 ⟨pa2, cap2, rfl, hown, ht2⟩
  obtain ⟨x0, x1, x2⟩ := kcell ht2
  have d0 := cell_turn ((T0.out.alloc _).trans ht2) c0
  have T2a := Lib.hid ((T0.out.alloc _).trans ht2)
  obtain ⟨g, hgB, rfl, hcap2, hgc⟩ := ownI hown (by intro e; rw [e] at hM; simp at hM)
  have hM1 : (0 : Int) < (M.length : Int) := by omega
  have g0 := hgc 0 (by omega)
  have g1 := hgc 1 (by omega)
  have hcap3 : (2 : Int) < (cap2 : Int) := by omega
  obtain ⟨q20, l0a, l0b, hq0⟩ := tail104 g 0 (M.length - 0) (M.length - 1) (cap2 - 0) (by omega)
  have hq0 := hq0 (by omega)
  subst hq0
  obtain ⟨q21, l1a, l1b, hq1⟩ := tail104 g 1 (M.length - 1) (M.length - 2) (cap2 - 1) (by omega)
  have hq1 := hq1 (by omega)
  subst hq1
  have hge : ((M.length - 2 : Nat) : Int) > 0 := by omega
  have hge1 : (0 : Int) < ((M.length - 1 : Nat) : Int) := by omega
  simp only [Nat.sub_zero] at l0a l0b l1a l1b
  clear hgc hgB hcap2 hown
  have HM := Lib.hid hM
  clear hM
  clear ht2 c0
  go_wp2_with fail
  go_quiet (fail)
  generalize hw3 : World.drewN w2 _ = w3
  have t3 : Turn Nn w2 w3 := hw3 ▸ (Turn.refl Nn w2).drewN _
  have x1 := cell_turn t3 x1
  have x2 := cell_turn t3 x2
  have g0 := cell_turn t3 g0
  have g1 := cell_turn t3 g1
  clear x0
  have T3a := Lib.hid (T2a.out.trans t3)
  have hkl := World.block_lt_of_cell? w3 _ x1
  have hgl : g < w3.heap.size := World.block_lt_of_cell? w3 _ g0
  clear hw3 t3 d0
  go_wp2_with fail
  refine wp_loop_rounds 3 ?_
  rw [rounds_succ]
  go_wp2_with fail
  generalize hw4 : World.alloc (World.alloc (World.alloc w3 _) _) _ = w4
  obtain ⟨b1, b2, b3, t4⟩ := alloc3 hw4
  have T4a := Lib.hid (T3a.out.trans t4)
  have g0 := cell_turn t4 g0
  have g1 := cell_turn t4 g1
  have htl := heap_lt b3
  clear hw4
  have y0 := cell_blk (o := 0) b3
  have y1 := cell_blk (o := 1) b3
  have z0 := cell_blk (o := 2) b2
  have z1 := cell_blk (o := 3) b2
  have f1 := frozen_blk (o := 1) b1
  have t0 := cell_blk (o := 0) b1
  have t1 := cell_blk (o := 1) b1
  have t2 := cell_blk (o := 2) b1
  simp only [List.getElem?_toArray, List.getElem?_cons_succ, List.getElem?_cons_zero] at y0 y1 z0 z1 t0 t1 t2
  clear x1 x2
  go_region
  generalize hw5 : World.drew (World.setCell w4 _ _) = w5
  have b15 := setd hw5 b1
  have b25 := (setd_ne hw5 (k := w3.heap.size + 1) (by omega)).trans b2
  have bg5 : w5.heap[g]? = w4.heap[g]? := setd_ne hw5 (by omega)
  have HS5 := Lib.hid (setd_size hw5)
  have g1 := (World.cell?_of_block bg5).trans g1
  have T5a := Lib.hid (setd_turn hw5 T4a.out (by have := T3a.out.size; omega))
  clear hw5 y0 y1 z0 z1 f1 t0 t1 t2 bg5 g0
  have z0 := cell_blk (o := 2) b25
  have z1 := cell_blk (o := 3) b25
  simp only [List.getElem?_toArray, List.getElem?_cons_succ, List.getElem?_cons_zero] at z0 z1
  have h5s : w3.heap.size < w5.heap.size := heap_lt b15
  go_wp2_with fail
  rw [rounds_succ]
  go_wp2_with fail
  generalize hw6 : World.alloc w5 _ = w6
  obtain ⟨c1, t6⟩ := alloc1 hw6
  have T6a := Lib.hid (T5a.out.trans t6)
  have h5g : g < w5.heap.size := World.block_lt_of_cell? w5 _ g1
  have g1 := cell_turn t6 g1
  have b16 := (t6.block _ (heap_lt b15) (fun h => h)).trans b15
  clear hw6 t6 z0 z1
  have y0 := cell_blk (o := 0) c1
  have y1 := cell_blk (o := 1) c1
  have f1 := frozen_blk (o := 2) b16
  have t0 := cell_blk (o := 0) b16
  have t1 := cell_blk (o := 1) b16
  have t2 := cell_blk (o := 2) b16
  simp only [List.getElem?_toArray, List.getElem?_cons_succ, List.getElem?_cons_zero, List.setIfInBounds_toArray, List.set_cons_succ, List.set_cons_zero] at y0 y1 t0 t1 t2
  go_region
  generalize hw7 : World.drew (World.setCell w6 _ _) = w7
  have b15 := setd hw7 b16
  have T7a := Lib.hid (setd_turn hw7 T6a.out (by have := T3a.out.size; omega))
  clear hw7 y0 y1 f1 t0 t1 t2 g1
  go_wp2_with fail
  rw [rounds_succ]
  clear b15
  go_wp2_with fail
  go_ret
  exact RPostV.err rfl T7a.out.wide

set_option maxRecDepth 100000 in
set_option maxHeartbeats 16000000 in
theorem rturn_1_0 {w0 w : World} {r : Nat} {s : ScriptD} {v : Value} {b o n cap : Nat} {A : List Bs} (h0 : Laid w0) (hb0 : Below w0.heap.size w0 w) (h : RAt w w0.heap.size r 2 s v) (hst : s.turns.length ≤ 4096) (hn : n = A.length + 1) (hc : ∀ i, i < n → w.cell? ⟨b, o + i, none⟩ = some (.string ⟨((wRound :: A)[i]?.getD []).toArray⟩)) (hcap : n ≤ cap)
    (hL : A.length ≤ 900000) (hs : ∀ i, i < A.length → (A[i]?.getD []).length ≤ 1000000) (hA : numsL A = some []) :
    Calls Tryz.prog 75 #[.pointer (some ⟨r, 0, none⟩), .slice (some ⟨b, o, none⟩) n cap] w (RPostV w w0.heap.size r 2 v (.error 5)) := by
  obtain ⟨pa, hs1, hs2, hsl⟩ := tail_run hc hn hcap
  have c0 : w.cell? ⟨b, o, none⟩ = some (.string ⟨#[114, 111, 117, 110, 100]⟩) := hc 0 (by omega)
  have HSA := Lib.hid hs
  have HR0 := Lib.hid h
  have HB0 := Lib.hid hb0
  have HL0 := Lib.hid (h0.below hb0)
  have HLW := Lib.hid hL
  have HSL := Lib.hid hsl
  have HN := Lib.hid hn
  have HNA := Lib.hid hA
  have HST := Lib.hid hst
  have hpos : (1 : Int) ≤ (n : Int) := by omega
  clear hc hn hs h hb0 h0 hsl hA hL hst
  have i0 := kindsAt0
  have i1 := kindsAt1
  have i2 := kindsAt2
  have i3 := kindsAt3
  go_enter Tryz.func75, Tryz.ntmps75
  go_wp2_with fail
  refine (kinds_any _).mono ?_
  rintro e w1 ⟨rfl, hw1⟩
  have T0 : Hid (Turn Nn w w1) := by rw [hw1]; exact Lib.hid ((Turn.refl _ _).alloc _)
  clear hw1
  obtain ⟨q0, hq0⟩ : ∃ q, w1 = q := ⟨_, rfl⟩
  rw [hq0] at T0 ⊢
  clear hq0 w1
  go_wp2_with fail
  refine wp_loop_rounds 5 ?_
  rw [rounds_succ]
  go_wp2_with fail
  refine (numbers_skip (x := true) (HSL.out.turn (T0.out.alloc _)) (by have := HLW.out; omega) HSA.out (HL0.out.turn (T0.out.alloc _)) (by rw [HNA.out]; rfl)).mono ?_
  rintro e u0 ⟨v0, rfl, ht⟩
  obtain ⟨x0, x1, x2⟩ := kcell ht
  have d0 := cell_turn ((T0.out.alloc _).trans ht) c0
  have U0 := Lib.hid ((T0.out.alloc _).trans ht)
  clear ht x1 x2
  go_wp2_with fail
  go_quiet (fail)
  generalize hq : World.drewN u0 _ = q1
  have T1 : Hid (Turn Nn w q1) := by rw [← hq]; exact Lib.hid (U0.out.drewN _)
  clear hq x0 d0
  go_wp2_with fail
  rw [rounds_succ]
  go_wp2_with fail
  refine (numbers_some HNA.out (HSL.out.turn (T1.out.alloc _)) (by have := HLW.out; omega) HSA.out (HL0.out.turn (T1.out.alloc _))).mono ?_
  rintro e w2 ⟨pa2, cap2, rfl, hown, ht2⟩
  obtain ⟨x0, x1, x2⟩ := kcell ht2
  have d0 := cell_turn ((T1.out.alloc _).trans ht2) c0
  have T2a := Lib.hid ((T1.out.alloc _).trans ht2)
  clear hown
  clear ht2 c0
  go_wp2_with fail
  go_quiet (fail)
  generalize hw3 : World.drewN w2 _ = w3
  have t3 : Turn Nn w2 w3 := hw3 ▸ (Turn.refl Nn w2).drewN _
  have x1 := cell_turn t3 x1
  have x2 := cell_turn t3 x2
  clear x0
  have T3a := Lib.hid (T2a.out.trans t3)
  have hkl := World.block_lt_of_cell? w3 _ x1
  clear hw3 t3 d0
  go_wp2_with fail
  refine wp_loop_rounds 3 ?_
  rw [rounds_succ]
  go_wp2_with fail
  go_wp2_with fail
  rw [rounds_succ]
  go_wp2_with fail
  go_ret
  exact RPostV.err rfl ((((T3a.out.alloc _).alloc _).alloc _).alloc _).wide

set_option maxRecDepth 100000 in
set_option maxHeartbeats 16000000 in
theorem rturn_1_1 {w0 w : World} {r : Nat} {s : ScriptD} {v : Value} {b o n cap : Nat} {A : List Bs} {c : Nat} (h0 : Laid w0) (hb0 : Below w0.heap.size w0 w) (h : RAt w w0.heap.size r 2 s v) (hst : s.turns.length ≤ 4096) (hn : n = A.length + 1) (hc : ∀ i, i < n → w.cell? ⟨b, o + i, none⟩ = some (.string ⟨((wRound :: A)[i]?.getD []).toArray⟩)) (hcap : n ≤ cap)
    (hL : A.length ≤ 900000) (hs : ∀ i, i < A.length → (A[i]?.getD []).length ≤ 1000000) (hA : numsL A = some [c]) :
    Calls Tryz.prog 75 #[.pointer (some ⟨r, 0, none⟩), .slice (some ⟨b, o, none⟩) n cap] w (RPostV w w0.heap.size r 2 v (addTurn s ⟨1, 0, (c : Nat)⟩)) := by
  obtain ⟨pa, hs1, hs2, hsl⟩ := tail_run hc hn hcap
  have c0 : w.cell? ⟨b, o, none⟩ = some (.string ⟨#[114, 111, 117, 110, 100]⟩) := hc 0 (by omega)
  have HSA := Lib.hid hs
  have HR0 := Lib.hid h
  have HB0 := Lib.hid hb0
  have HL0 := Lib.hid (h0.below hb0)
  have HLW := Lib.hid hL
  have HSL := Lib.hid hsl
  have HN := Lib.hid hn
  have HNA := Lib.hid hA
  have HST := Lib.hid hst
  have hpos : (1 : Int) ≤ (n : Int) := by omega
  clear hc hn hs h hb0 h0 hsl hA hL hst
  have i0 := kindsAt0
  have i1 := kindsAt1
  have i2 := kindsAt2
  have i3 := kindsAt3
  go_enter Tryz.func75, Tryz.ntmps75
  go_wp2_with fail
  refine (kinds_any _).mono ?_
  rintro e w1 ⟨rfl, hw1⟩
  have T0 : Hid (Turn Nn w w1) := by rw [hw1]; exact Lib.hid ((Turn.refl _ _).alloc _)
  clear hw1
  obtain ⟨q0, hq0⟩ : ∃ q, w1 = q := ⟨_, rfl⟩
  rw [hq0] at T0 ⊢
  clear hq0 w1
  go_wp2_with fail
  refine wp_loop_rounds 5 ?_
  rw [rounds_succ]
  go_wp2_with fail
  refine (numbers_skip (x := true) (HSL.out.turn (T0.out.alloc _)) (by have := HLW.out; omega) HSA.out (HL0.out.turn (T0.out.alloc _)) (by rw [HNA.out]; rfl)).mono ?_
  rintro e u0 ⟨v0, rfl, ht⟩
  obtain ⟨x0, x1, x2⟩ := kcell ht
  have d0 := cell_turn ((T0.out.alloc _).trans ht) c0
  have U0 := Lib.hid ((T0.out.alloc _).trans ht)
  clear ht x1 x2
  go_wp2_with fail
  go_quiet (fail)
  generalize hq : World.drewN u0 _ = q1
  have T1 : Hid (Turn Nn w q1) := by rw [← hq]; exact Lib.hid (U0.out.drewN _)
  clear hq x0 d0
  go_wp2_with fail
  rw [rounds_succ]
  go_wp2_with fail
  refine (numbers_some HNA.out (HSL.out.turn (T1.out.alloc _)) (by have := HLW.out; omega) HSA.out (HL0.out.turn (T1.out.alloc _))).mono ?_
  rintro e w2 ⟨pa2, cap2, rfl, hown, ht2⟩
  obtain ⟨x0, x1, x2⟩ := kcell ht2
  have d0 := cell_turn ((T1.out.alloc _).trans ht2) c0
  have T2a := Lib.hid ((T1.out.alloc _).trans ht2)
  obtain ⟨g, hgB, rfl, hcap2, hgc⟩ := ownI hown (by simp)
  have g0 : w2.cell? ⟨g, 0, none⟩ = some (.int .i64 (c : Nat)) := hgc 0 (by simp)
  have hcap3 : (1 : Int) ≤ (cap2 : Int) := by simp at hcap2; omega
  obtain ⟨q20, l0a, l0b, hq0⟩ := tail104 g 0 1 0 (cap2 - 0) rfl
  clear hq0
  simp only [Nat.sub_zero] at l0a l0b
  clear hown hgc hgB hcap2
  clear ht2 c0
  go_wp2_with fail
  go_quiet (fail)
  generalize hw3 : World.drewN w2 _ = w3
  have t3 : Turn Nn w2 w3 := hw3 ▸ (Turn.refl Nn w2).drewN _
  have x1 := cell_turn t3 x1
  have x2 := cell_turn t3 x2
  have g0 := cell_turn t3 g0
  clear x0
  have T3a := Lib.hid (T2a.out.trans t3)
  have hkl := World.block_lt_of_cell? w3 _ x1
  have hgl : g < w3.heap.size := World.block_lt_of_cell? w3 _ g0
  clear hw3 t3 d0
  go_wp2_with fail
  refine wp_loop_rounds 3 ?_
  rw [rounds_succ]
  go_wp2_with fail
  go_wp2_with fail
  rw [rounds_succ]
  go_wp2_with fail
  generalize hw4 : World.alloc (World.alloc (World.alloc (World.alloc w3 _) _) _) _ = w4
  obtain ⟨b1, b2, b2x, b3, t4⟩ := alloc4 hw4
  have T4a := Lib.hid (T3a.out.trans t4)
  have g0 := cell_turn t4 g0
  have htl := heap_lt b3
  clear hw4
  have y0 := cell_blk (o := 0) b3
  have y1 := cell_blk (o := 1) b3
  have z0 := cell_blk (o := 2) b2
  have z1 := cell_blk (o := 3) b2
  have f1 := frozen_blk (o := 2) b1
  have t0 := cell_blk (o := 0) b1
  have t1 := cell_blk (o := 1) b1
  have t2 := cell_blk (o := 2) b1
  simp only [List.getElem?_toArray, List.getElem?_cons_succ, List.getElem?_cons_zero] at y0 y1 z0 z1 t0 t1 t2
  clear x1 x2
  go_region
  generalize hw5 : World.drew (World.setCell w4 _ _) = w5
  have b15 := setd hw5 b1
  have b25 := (setd_ne hw5 (k := w3.heap.size + 1) (by omega)).trans b2
  have bg5 : w5.heap[g]? = w4.heap[g]? := setd_ne hw5 (by omega)
  have HS5 := Lib.hid (setd_size hw5)
  have T5a := Lib.hid (setd_turn hw5 T4a.out (by have := T3a.out.size; omega))
  clear hw5 y0 y1 z0 z1 f1 t0 t1 t2 bg5 g0
  have z0 := cell_blk (o := 2) b25
  have z1 := cell_blk (o := 3) b25
  simp only [List.getElem?_toArray, List.getElem?_cons_succ, List.getElem?_cons_zero] at z0 z1
  have h5s : w3.heap.size < w5.heap.size := heap_lt b15
  go_wp2_with fail
  rw [rounds_succ]
  have t0 := cell_blk (o := 0) b15
  have t1 := cell_blk (o := 1) b15
  have t2 := cell_blk (o := 2) b15
  simp only [List.getElem?_toArray, List.getElem?_cons_succ, List.getElem?_cons_zero, List.setIfInBounds_toArray, List.set_cons_succ, List.set_cons_zero] at t0 t1 t2
  go_wp2_with fail
  have HC := Lib.hid (turn_any 1 0 (c : Nat) w5)
  cases hok : turnOk ⟨1, 0, (c : Nat)⟩ with
  | false =>
    rw [hok] at HC
    have HR : Hid (addTurn s ⟨1, 0, (c : Nat)⟩ = .error 2) := Lib.hid (by unfold addTurn; rw [if_pos hok])
    clear hok
    refine HC.out.mono ?_
    rintro e w8 ⟨rfl, t8⟩
    have T8 := Lib.hid (T5a.out.trans t8)
    clear t8
    go_wp2_with fail
    go_ret
    exact RPostV.err HR.out T8.out.wide
  | true =>
    rw [hok] at HC
    by_cases hful : 4096 ≤ s.turns.length
    · have HR : Hid (addTurn s ⟨1, 0, (c : Nat)⟩ = .error 4) := Lib.hid (by unfold addTurn; rw [if_neg (by rw [hok]; simp), if_pos hful])
      clear hok
      refine HC.out.mono ?_
      rintro e w8 ⟨rfl, t8⟩
      have T8 := Lib.hid (T5a.out.trans t8)
      obtain ⟨pv, cv, hpv⟩ : ∃ pv cv, v = .slice pv s.turns.length cv := by
        rcases HR0.out.own.2 with ⟨e, e2⟩ | ⟨_, _, _, e, _⟩
        · exact ⟨none, 0, by rw [e, e2]⟩
        · exact ⟨_, _, e⟩
      have B8 := (T8.out.block r (heap_lt HR0.out.blk) (fun h => h)).trans HR0.out.blk
      have k5 := cell_blk (o := 5) B8
      simp only [rcells, List.getElem?_toArray, List.getElem?_cons_succ, List.getElem?_cons_zero] at k5
      rw [hpv] at k5
      have hful : (4096 : Int) ≤ (s.turns.length : Int) := by omega
      have HPV := Lib.hid hpv
      clear t8 B8 hpv
      go_wp2_with fail
      go_ret
      exact RPostV.err HR.out T8.out.wide
    · have HR : Hid (addTurn s ⟨1, 0, (c : Nat)⟩ = .ok { s with turns := s.turns ++ [⟨1, 0, (c : Nat)⟩] }) := Lib.hid (by unfold addTurn; rw [if_neg (by rw [hok]; simp), if_neg hful])
      clear hok
      refine HC.out.mono ?_
      rintro e w8 ⟨rfl, t8⟩
      have T8 := Lib.hid (T5a.out.trans t8)
      have t0 := cell_turn t8 t0
      have t1 := cell_turn t8 t1
      have t2 := cell_turn t8 t2
      obtain ⟨pv, cv, hpv⟩ : ∃ pv cv, v = .slice pv s.turns.length cv := by
        rcases HR0.out.own.2 with ⟨e, e2⟩ | ⟨_, _, _, e, _⟩
        · exact ⟨none, 0, by rw [e, e2]⟩
        · exact ⟨_, _, e⟩
      have B8 := (T8.out.block r (heap_lt HR0.out.blk) (fun h => h)).trans HR0.out.blk
      have k5 := cell_blk (o := 5) B8
      simp only [rcells, List.getElem?_toArray, List.getElem?_cons_succ, List.getElem?_cons_zero] at k5
      have HPV := Lib.hid hpv
      have HK5 := Lib.hid k5
      rw [hpv] at k5
      have hful : ¬ (4096 : Int) ≤ (s.turns.length : Int) := by omega
      clear t8 B8 hpv
      go_wp2_with fail
      clear k5
      refine held_begin (STurn w3.heap.size 1 0 (c : Nat)) (by kernel_rfl) ?_
      generalize hwd : World.drew w8 = wd
      obtain ⟨v', W', hrun, e5, e6, eT, e7, e8, e9⟩ := push_turn (k := 1) (a := 0) (c := (c : Nat)) HR0.out HB0.out T8.out hwd HST.out 24
      obtain ⟨av, nv, cv', rfl⟩ : ∃ av nv cv', v' = .slice av nv cv' := by
        rcases e7.own.2 with ⟨e, _⟩ | ⟨_, _, _, e, _⟩
        · exact ⟨_, _, _, e⟩
        · exact ⟨_, _, _, e⟩
      have hS : STurn w3.heap.size 1 0 (c : Nat) wd := by rw [← hwd]; exact ⟨t0, t1, t2⟩
      have ec5 : wd.cell? ⟨r, 5, none⟩ = some v := by rw [← hwd]; exact HK5.out
      have hrl : r < wd.heap.size := World.block_lt_of_cell? wd _ ec5
      have htl2 : w3.heap.size < wd.heap.size := World.block_lt_of_cell? wd _ hS.1
      obtain ⟨eT1, eT2⟩ := eT w3.heap.size T3a.out.size (by rw [← hwd] at htl2; exact htl2)
      have t9 : Turn Nn wd (wd.alloc (.cells #[.int .i64 1, .int .i64 0, .int .i64 (c : Nat)] 60)) := (Turn.refl _ _).alloc _
      have HSA2 : Hid (STurn w3.heap.size 1 0 (c : Nat) (wd.alloc (.cells #[.int .i64 1, .int .i64 0, .int .i64 (c : Nat)] 60))) := Lib.hid (by
        obtain ⟨y2, y3, y4⟩ := hS
        exact ⟨cell_turn t9 y2, cell_turn t9 y3, cell_turn t9 y4⟩)
      have HSW : Hid (STurn w3.heap.size 1 0 (c : Nat) W') := Lib.hid (by
        obtain ⟨y2, y3, y4⟩ := hS
        exact ⟨(World.cell?_of_block eT1).trans y2, (World.cell?_of_block eT1).trans y3, (World.cell?_of_block eT1).trans y4⟩)
      have HSF : Hid (STurn w3.heap.size 1 0 (c : Nat) (W'.setCell ⟨r, 5, none⟩ (.slice av nv cv'))) := Lib.hid (by
        obtain ⟨y2, y3, y4⟩ := hS
        exact ⟨(World.cell?_of_block eT2).trans y2, (World.cell?_of_block eT2).trans y3, (World.cell?_of_block eT2).trans y4⟩)
      have EC5a := Lib.hid (cell_turn t9 ec5)
      have EC5 := Lib.hid ec5
      have HRUN := Lib.hid hrun
      have E5 := Lib.hid e5
      have E6 := Lib.hid e6
      have E7 := Lib.hid e7
      have E8 := Lib.hid e8
      have E9 := Lib.hid e9
      have HSS := Lib.hid hS
      clear hwd hrun e5 e6 e7 e8 e9 t0 t1 t2 b15 eT eT1 eT2 t9 ec5 hS
      refine held_take 0 ?_ rfl (by kernel_rfl) (by kernel_rfl) (by kernel_rfl) (fun _ _ _ h => h) (Or.inl ⟨by kernel_rfl, ?_⟩) HSS.out ?_
      rotate_left 1
      · intro u hu; obtain ⟨y2, y3, y4⟩ := hu; go_simp; first | done | with_reducible rfl
      try simp only [Act.put, List.getElem_toArray, List.getElem_cons_succ, List.getElem_cons_zero, List.setIfInBounds_toArray, List.set_cons_succ, List.set_cons_zero]
      refine held_take 1 ?_ rfl (by kernel_rfl) (by kernel_rfl) (by kernel_rfl) (fun _ _ _ h => h) (Or.inl ⟨by kernel_rfl, ?_⟩) HSS.out ?_
      rotate_left 1
      · intro u hu; obtain ⟨y2, y3, y4⟩ := hu; go_simp; first | done | with_reducible rfl
      try simp only [Act.put, List.getElem_toArray, List.getElem_cons_succ, List.getElem_cons_zero, List.setIfInBounds_toArray, List.set_cons_succ, List.set_cons_zero]
      refine held_take 2 ?_ rfl (by kernel_rfl) (by kernel_rfl) (by kernel_rfl) (fun _ _ _ h => h) (Or.inl ⟨by kernel_rfl, ?_⟩) HSS.out ?_
      rotate_left 1
      · intro u hu; obtain ⟨y2, y3, y4⟩ := hu; go_simp; first | done | with_reducible rfl
      try simp only [Act.put, List.getElem_toArray, List.getElem_cons_succ, List.getElem_cons_zero, List.setIfInBounds_toArray, List.set_cons_succ, List.set_cons_zero]
      refine held_take 3 ?_ rfl (by kernel_rfl) (by kernel_rfl) (by kernel_rfl) (fun _ _ _ h => h) (Or.inl ⟨by kernel_rfl, ?_⟩) HSS.out ?_
      rotate_left 1
      · intro u hu; obtain ⟨y2, y3, y4⟩ := hu; go_simp; first | done | with_reducible rfl
      try simp only [Act.put, List.getElem_toArray, List.getElem_cons_succ, List.getElem_cons_zero, List.setIfInBounds_toArray, List.set_cons_succ, List.set_cons_zero]
      refine held_take 4 ?_ rfl (by kernel_rfl) (by kernel_rfl) (by kernel_rfl) (fun _ _ _ h => h) (Or.inl ⟨by kernel_rfl, ?_⟩) HSS.out ?_
      rotate_left 1
      · intro u hu; obtain ⟨y2, y3, y4⟩ := hu; go_simp; first | done | with_reducible rfl
      try simp only [Act.put, List.getElem_toArray, List.getElem_cons_succ, List.getElem_cons_zero, List.setIfInBounds_toArray, List.set_cons_succ, List.set_cons_zero]
      refine held_take 6 ?_ rfl (by kernel_rfl) (by kernel_rfl) (by kernel_rfl) (fun _ _ _ h => h) (Or.inl ⟨by kernel_rfl, ?_⟩) HSS.out ?_
      rotate_left 1
      · intro u hu; obtain ⟨y2, y3, y4⟩ := hu; go_simp; first | done | with_reducible rfl
      try simp only [Act.put, List.getElem_toArray, List.getElem_cons_succ, List.getElem_cons_zero, List.setIfInBounds_toArray, List.set_cons_succ, List.set_cons_zero]
      refine held_pair 5 7 (by kernel_rfl) rfl rfl (by kernel_rfl) (by kernel_rfl) (fun Ka hKa => ?_) (fun Ka hKa => ?_)
      · have e5 := EC5.out
        go_simp
        refine hKa _ _ HSS.out ?_
        clear hKa Ka e5
        try simp only [Act.put, List.getElem_toArray, List.getElem_cons_succ, List.getElem_cons_zero, List.setIfInBounds_toArray, List.set_cons_succ, List.set_cons_zero]
        refine held_one 7 (by kernel_rfl) rfl (by kernel_rfl) (fun Kd hKd => ?_)
        go_simp
        refine hKd _ _ HSA2.out ?_
        clear hKd Kd
        try simp only [Act.put, List.getElem_toArray, List.getElem_cons_succ, List.getElem_cons_zero, List.setIfInBounds_toArray, List.set_cons_succ, List.set_cons_zero]
        refine held_one 8 (by kernel_rfl) rfl (by kernel_rfl) (fun Kb hKb => ?_)
        refine oper_append_eq _ _ 24 rfl _ _ rfl rfl HRUN.out ?_
        refine hKb _ _ HSW.out ?_
        clear hKb Kb
        try simp only [Act.put, List.getElem_toArray, List.getElem_cons_succ, List.getElem_cons_zero, List.setIfInBounds_toArray, List.set_cons_succ, List.set_cons_zero]
        refine held_take 9 ?_ rfl (by kernel_rfl) (by kernel_rfl) (by kernel_rfl) (fun _ _ _ h => h) (Or.inl ⟨by kernel_rfl, ?_⟩) HSW.out ?_
        rotate_left 1
        · intro u hu; obtain ⟨y2, y3, y4⟩ := hu; go_simp; first | done | with_reducible rfl
        try simp only [Act.put, List.getElem_toArray, List.getElem_cons_succ, List.getElem_cons_zero, List.setIfInBounds_toArray, List.set_cons_succ, List.set_cons_zero]
        refine held_take 10 ?_ rfl (by kernel_rfl) (by kernel_rfl) (by kernel_rfl) (fun _ _ _ h => h) (Or.inl ⟨by kernel_rfl, ?_⟩) HSW.out ?_
        rotate_left 1
        · intro u hu; obtain ⟨y2, y3, y4⟩ := hu; go_simp; first | done | with_reducible rfl
        try simp only [Act.put, List.getElem_toArray, List.getElem_cons_succ, List.getElem_cons_zero, List.setIfInBounds_toArray, List.set_cons_succ, List.set_cons_zero]
        refine held_take 11 ?_ rfl (by kernel_rfl) (by kernel_rfl) (by kernel_rfl) (fun _ _ _ h => h) (Or.inl ⟨by kernel_rfl, ?_⟩) HSW.out ?_
        rotate_left 1
        · intro u hu; obtain ⟨y2, y3, y4⟩ := hu; go_simp; first | done | with_reducible rfl
        try simp only [Act.put, List.getElem_toArray, List.getElem_cons_succ, List.getElem_cons_zero, List.setIfInBounds_toArray, List.set_cons_succ, List.set_cons_zero]
        refine held_one 12 (by kernel_rfl) rfl (by kernel_rfl) (fun Kc hKc => ?_)
        have e5 := E5.out
        have e6 := E6.out
        go_simp
        refine hKc _ _ HSF.out ?_
        clear hKc Kc e5 e6
        try simp only [Act.put, List.getElem_toArray, List.getElem_cons_succ, List.getElem_cons_zero, List.setIfInBounds_toArray, List.set_cons_succ, List.set_cons_zero]
        refine wpAnyH_done (by kernel_rfl) ?_ _
        go_wp2_with fail
        go_ret
        exact RPostV.good HR.out E7.out E8.out E9.out
      · go_simp
        refine hKa _ _ HSA2.out ?_
        clear hKa Ka
        try simp only [Act.put, List.getElem_toArray, List.getElem_cons_succ, List.getElem_cons_zero, List.setIfInBounds_toArray, List.set_cons_succ, List.set_cons_zero]
        refine held_one 5 (by kernel_rfl) rfl (by kernel_rfl) (fun Kd hKd => ?_)
        have e5 := EC5a.out
        go_simp
        refine hKd _ _ HSA2.out ?_
        clear hKd Kd e5
        try simp only [Act.put, List.getElem_toArray, List.getElem_cons_succ, List.getElem_cons_zero, List.setIfInBounds_toArray, List.set_cons_succ, List.set_cons_zero]
        refine held_one 8 (by kernel_rfl) rfl (by kernel_rfl) (fun Kb hKb => ?_)
        refine oper_append_eq _ _ 24 rfl _ _ rfl rfl HRUN.out ?_
        refine hKb _ _ HSW.out ?_
        clear hKb Kb
        try simp only [Act.put, List.getElem_toArray, List.getElem_cons_succ, List.getElem_cons_zero, List.setIfInBounds_toArray, List.set_cons_succ, List.set_cons_zero]
        refine held_take 9 ?_ rfl (by kernel_rfl) (by kernel_rfl) (by kernel_rfl) (fun _ _ _ h => h) (Or.inl ⟨by kernel_rfl, ?_⟩) HSW.out ?_
        rotate_left 1
        · intro u hu; obtain ⟨y2, y3, y4⟩ := hu; go_simp; first | done | with_reducible rfl
        try simp only [Act.put, List.getElem_toArray, List.getElem_cons_succ, List.getElem_cons_zero, List.setIfInBounds_toArray, List.set_cons_succ, List.set_cons_zero]
        refine held_take 10 ?_ rfl (by kernel_rfl) (by kernel_rfl) (by kernel_rfl) (fun _ _ _ h => h) (Or.inl ⟨by kernel_rfl, ?_⟩) HSW.out ?_
        rotate_left 1
        · intro u hu; obtain ⟨y2, y3, y4⟩ := hu; go_simp; first | done | with_reducible rfl
        try simp only [Act.put, List.getElem_toArray, List.getElem_cons_succ, List.getElem_cons_zero, List.setIfInBounds_toArray, List.set_cons_succ, List.set_cons_zero]
        refine held_take 11 ?_ rfl (by kernel_rfl) (by kernel_rfl) (by kernel_rfl) (fun _ _ _ h => h) (Or.inl ⟨by kernel_rfl, ?_⟩) HSW.out ?_
        rotate_left 1
        · intro u hu; obtain ⟨y2, y3, y4⟩ := hu; go_simp; first | done | with_reducible rfl
        try simp only [Act.put, List.getElem_toArray, List.getElem_cons_succ, List.getElem_cons_zero, List.setIfInBounds_toArray, List.set_cons_succ, List.set_cons_zero]
        refine held_one 12 (by kernel_rfl) rfl (by kernel_rfl) (fun Kc hKc => ?_)
        have e5 := E5.out
        have e6 := E6.out
        go_simp
        refine hKc _ _ HSF.out ?_
        clear hKc Kc e5 e6
        try simp only [Act.put, List.getElem_toArray, List.getElem_cons_succ, List.getElem_cons_zero, List.setIfInBounds_toArray, List.set_cons_succ, List.set_cons_zero]
        refine wpAnyH_done (by kernel_rfl) ?_ _
        go_wp2_with fail
        go_ret
        exact RPostV.good HR.out E7.out E8.out E9.out

set_option maxRecDepth 100000 in
set_option maxHeartbeats 16000000 in
theorem rturn_1_long {w0 w : World} {r : Nat} {s : ScriptD} {v : Value} {b o n cap : Nat} {A : List Bs} {M : List Nat} (h0 : Laid w0) (hb0 : Below w0.heap.size w0 w) (h : RAt w w0.heap.size r 2 s v) (hst : s.turns.length ≤ 4096) (hn : n = A.length + 1) (hc : ∀ i, i < n → w.cell? ⟨b, o + i, none⟩ = some (.string ⟨((wRound :: A)[i]?.getD []).toArray⟩)) (hcap : n ≤ cap)
    (hL : A.length ≤ 900000) (hs : ∀ i, i < A.length → (A[i]?.getD []).length ≤ 1000000) (hA : numsL A = some M) (hM : 1 < M.length) :
    Calls Tryz.prog 75 #[.pointer (some ⟨r, 0, none⟩), .slice (some ⟨b, o, none⟩) n cap] w (RPostV w w0.heap.size r 2 v (.error 5)) := by
  obtain ⟨pa, hs1, hs2, hsl⟩ := tail_run hc hn hcap
  have c0 : w.cell? ⟨b, o, none⟩ = some (.string ⟨#[114, 111, 117, 110, 100]⟩) := hc 0 (by omega)
  have HSA := Lib.hid hs
  have HR0 := Lib.hid h
  have HB0 := Lib.hid hb0
  have HL0 := Lib.hid (h0.below hb0)
  have HLW := Lib.hid hL
  have HSL := Lib.hid hsl
  have HN := Lib.hid hn
  have HNA := Lib.hid hA
  have HST := Lib.hid hst
  have hpos : (1 : Int) ≤ (n : Int) := by omega
  clear hc hn hs h hb0 h0 hsl hA hL hst
  have i0 := kindsAt0
  have i1 := kindsAt1
  have i2 := kindsAt2
  have i3 := kindsAt3
  go_enter Tryz.func75, Tryz.ntmps75
  go_wp2_with fail
  refine (kinds_any _).mono ?_
  rintro e w1 ⟨rfl, hw1⟩
  have T0 : Hid (Turn Nn w w1) := by rw [hw1]; exact Lib.hid ((Turn.refl _ _).alloc _)
  clear hw1
  obtain ⟨q0, hq0⟩ : ∃ q, w1 = q := ⟨_, rfl⟩
  rw [hq0] at T0 ⊢
  clear hq0 w1
  go_wp2_with fail
  refine wp_loop_rounds 5 ?_
  rw [rounds_succ]
  go_wp2_with fail
  refine (numbers_skip (x := true) (HSL.out.turn (T0.out.alloc _)) (by have := HLW.out; omega) HSA.out (HL0.out.turn (T0.out.alloc _)) (by rw [HNA.out]; rfl)).mono ?_
  rintro e u0 ⟨v0, rfl, ht⟩
  obtain ⟨x0, x1, x2⟩ := kcell ht
  have d0 := cell_turn ((T0.out.alloc _).trans ht) c0
  have U0 := Lib.hid ((T0.out.alloc _).trans ht)
  clear ht x1 x2
  go_wp2_with fail
  go_quiet (fail)
  generalize hq : World.drewN u0 _ = q1
  have T1 : Hid (Turn Nn w q1) := by rw [← hq]; exact Lib.hid (U0.out.drewN _)
  clear hq x0 d0
  go_wp2_with fail
  rw [rounds_succ]
  go_wp2_with fail
  refine (numbers_some HNA.out (HSL.out.turn (T1.out.alloc _)) (by have := HLW.out; omega) HSA.out (HL0.out.turn (T1.out.alloc _))).mono ?_
  rintro e w2 ⟨pa2, cap2, rfl, hown, ht2⟩
  obtain ⟨x0, x1, x2⟩ := kcell ht2
  have d0 := cell_turn ((T1.out.alloc _).trans ht2) c0
  have T2a := Lib.hid ((T1.out.alloc _).trans ht2)
  obtain ⟨g, hgB, rfl, hcap2, hgc⟩ := ownI hown (by intro e; rw [e] at hM; simp at hM)
  have hM1 : (0 : Int) < (M.length : Int) := by omega
  have g0 := hgc 0 (by omega)
  have hcap3 : (1 : Int) < (cap2 : Int) := by omega
  obtain ⟨q20, l0a, l0b, hq0⟩ := tail104 g 0 (M.length - 0) (M.length - 1) (cap2 - 0) (by omega)
  have hq0 := hq0 (by omega)
  subst hq0
  have hge : ((M.length - 1 : Nat) : Int) > 0 := by omega
  simp only [Nat.sub_zero] at l0a l0b
  clear hgc hgB hcap2 hown
  have HM := Lib.hid hM
  clear hM
  clear ht2 c0
  go_wp2_with fail
  go_quiet (fail)
  generalize hw3 : World.drewN w2 _ = w3
  have t3 : Turn Nn w2 w3 := hw3 ▸ (Turn.refl Nn w2).drewN _
  have x1 := cell_turn t3 x1
  have x2 := cell_turn t3 x2
  have g0 := cell_turn t3 g0
  clear x0
  have T3a := Lib.hid (T2a.out.trans t3)
  have hkl := World.block_lt_of_cell? w3 _ x1
  have hgl : g < w3.heap.size := World.block_lt_of_cell? w3 _ g0
  clear hw3 t3 d0
  go_wp2_with fail
  refine wp_loop_rounds 3 ?_
  rw [rounds_succ]
  go_wp2_with fail
  go_wp2_with fail
  rw [rounds_succ]
  go_wp2_with fail
  generalize hw4 : World.alloc (World.alloc (World.alloc (World.alloc w3 _) _) _) _ = w4
  obtain ⟨b1, b2, b2x, b3, t4⟩ := alloc4 hw4
  have T4a := Lib.hid (T3a.out.trans t4)
  have g0 := cell_turn t4 g0
  have htl := heap_lt b3
  clear hw4
  have y0 := cell_blk (o := 0) b3
  have y1 := cell_blk (o := 1) b3
  have z0 := cell_blk (o := 2) b2
  have z1 := cell_blk (o := 3) b2
  have f1 := frozen_blk (o := 2) b1
  have t0 := cell_blk (o := 0) b1
  have t1 := cell_blk (o := 1) b1
  have t2 := cell_blk (o := 2) b1
  simp only [List.getElem?_toArray, List.getElem?_cons_succ, List.getElem?_cons_zero] at y0 y1 z0 z1 t0 t1 t2
  clear x1 x2
  go_region
  generalize hw5 : World.drew (World.setCell w4 _ _) = w5
  have b15 := setd hw5 b1
  have b25 := (setd_ne hw5 (k := w3.heap.size + 1) (by omega)).trans b2
  have bg5 : w5.heap[g]? = w4.heap[g]? := setd_ne hw5 (by omega)
  have HS5 := Lib.hid (setd_size hw5)
  have T5a := Lib.hid (setd_turn hw5 T4a.out (by have := T3a.out.size; omega))
  clear hw5 y0 y1 z0 z1 f1 t0 t1 t2 bg5 g0
  have z0 := cell_blk (o := 2) b25
  have z1 := cell_blk (o := 3) b25
  simp only [List.getElem?_toArray, List.getElem?_cons_succ, List.getElem?_cons_zero] at z0 z1
  have h5s : w3.heap.size < w5.heap.size := heap_lt b15
  go_wp2_with fail
  rw [rounds_succ]
  clear b15
  go_wp2_with fail
  go_ret
  exact RPostV.err rfl T5a.out.wide

set_option maxRecDepth 100000 in
set_option maxHeartbeats 16000000 in
theorem rturn_2_0 {w0 w : World} {r : Nat} {s : ScriptD} {v : Value} {b o n cap : Nat} {A : List Bs} (h0 : Laid w0) (hb0 : Below w0.heap.size w0 w) (h : RAt w w0.heap.size r 2 s v) (hst : s.turns.length ≤ 4096) (hn : n = A.length + 1) (hc : ∀ i, i < n → w.cell? ⟨b, o + i, none⟩ = some (.string ⟨((wShow :: A)[i]?.getD []).toArray⟩)) (hcap : n ≤ cap)
    (hL : A.length ≤ 900000) (hs : ∀ i, i < A.length → (A[i]?.getD []).length ≤ 1000000) (hA : numsL A = some []) :
    Calls Tryz.prog 75 #[.pointer (some ⟨r, 0, none⟩), .slice (some ⟨b, o, none⟩) n cap] w (RPostV w w0.heap.size r 2 v (addTurn s ⟨2, 0, 0⟩)) := by
  obtain ⟨pa, hs1, hs2, hsl⟩ := tail_run hc hn hcap
  have c0 : w.cell? ⟨b, o, none⟩ = some (.string ⟨#[115, 104, 111, 119]⟩) := hc 0 (by omega)
  have HSA := Lib.hid hs
  have HR0 := Lib.hid h
  have HB0 := Lib.hid hb0
  have HL0 := Lib.hid (h0.below hb0)
  have HLW := Lib.hid hL
  have HSL := Lib.hid hsl
  have HN := Lib.hid hn
  have HNA := Lib.hid hA
  have HST := Lib.hid hst
  have hpos : (1 : Int) ≤ (n : Int) := by omega
  clear hc hn hs h hb0 h0 hsl hA hL hst
  have i0 := kindsAt0
  have i1 := kindsAt1
  have i2 := kindsAt2
  have i3 := kindsAt3
  go_enter Tryz.func75, Tryz.ntmps75
  go_wp2_with fail
  refine (kinds_any _).mono ?_
  rintro e w1 ⟨rfl, hw1⟩
  have T0 : Hid (Turn Nn w w1) := by rw [hw1]; exact Lib.hid ((Turn.refl _ _).alloc _)
  clear hw1
  obtain ⟨q0, hq0⟩ : ∃ q, w1 = q := ⟨_, rfl⟩
  rw [hq0] at T0 ⊢
  clear hq0 w1
  go_wp2_with fail
  refine wp_loop_rounds 5 ?_
  rw [rounds_succ]
  go_wp2_with fail
  refine (numbers_skip (x := true) (HSL.out.turn (T0.out.alloc _)) (by have := HLW.out; omega) HSA.out (HL0.out.turn (T0.out.alloc _)) (by rw [HNA.out]; rfl)).mono ?_
  rintro e u0 ⟨v0, rfl, ht⟩
  obtain ⟨x0, x1, x2⟩ := kcell ht
  have d0 := cell_turn ((T0.out.alloc _).trans ht) c0
  have U0 := Lib.hid ((T0.out.alloc _).trans ht)
  clear ht x1 x2
  go_wp2_with fail
  go_quiet (fail)
  generalize hq : World.drewN u0 _ = q1
  have T1 : Hid (Turn Nn w q1) := by rw [← hq]; exact Lib.hid (U0.out.drewN _)
  clear hq x0 d0
  go_wp2_with fail
  rw [rounds_succ]
  go_wp2_with fail
  refine (numbers_skip (x := true) (HSL.out.turn (T1.out.alloc _)) (by have := HLW.out; omega) HSA.out (HL0.out.turn (T1.out.alloc _)) (by rw [HNA.out]; rfl)).mono ?_
  rintro e u1 ⟨v1, rfl, ht⟩
  obtain ⟨x0, x1, x2⟩ := kcell ht
  have d0 := cell_turn ((T1.out.alloc _).trans ht) c0
  have U1 := Lib.hid ((T1.out.alloc _).trans ht)
  clear ht x1 x2
  go_wp2_with fail
  go_quiet (fail)
  generalize hq : World.drewN u1 _ = q2
  have T2 : Hid (Turn Nn w q2) := by rw [← hq]; exact Lib.hid (U1.out.drewN _)
  clear hq x0 d0
  go_wp2_with fail
  rw [rounds_succ]
  go_wp2_with fail
  refine (numbers_some HNA.out (HSL.out.turn (T2.out.alloc _)) (by have := HLW.out; omega) HSA.out (HL0.out.turn (T2.out.alloc _))).mono ?_
  rintro e w2 ⟨pa2, cap2, rfl, hown, ht2⟩
  obtain ⟨x0, x1, x2⟩ := kcell ht2
  have d0 := cell_turn ((T2.out.alloc _).trans ht2) c0
  have T2a := Lib.hid ((T2.out.alloc _).trans ht2)
  clear hown
  clear ht2 c0
  go_wp2_with fail
  go_quiet (fail)
  generalize hw3 : World.drewN w2 _ = w3
  have t3 : Turn Nn w2 w3 := hw3 ▸ (Turn.refl Nn w2).drewN _
  have x1 := cell_turn t3 x1
  have x2 := cell_turn t3 x2
  clear x0
  have T3a := Lib.hid (T2a.out.trans t3)
  have hkl := World.block_lt_of_cell? w3 _ x1
  clear hw3 t3 d0
  go_wp2_with fail
  refine wp_loop_rounds 3 ?_
  rw [rounds_succ]
  go_wp2_with fail
  go_wp2_with fail
  rw [rounds_succ]
  go_wp2_with fail
  go_wp2_with fail
  rw [rounds_succ]
  generalize hw7 : World.alloc (World.alloc (World.alloc (World.alloc w3 _) _) _) _ = w7
  obtain ⟨b15, _, _, _, t7⟩ := alloc4 hw7
  have T7a := Lib.hid (T3a.out.trans t7)
  clear hw7 t7 x1 x2
  have t0 := cell_blk (o := 0) b15
  have t1 := cell_blk (o := 1) b15
  have t2 := cell_blk (o := 2) b15
  simp only [List.getElem?_toArray, List.getElem?_cons_succ, List.getElem?_cons_zero, List.setIfInBounds_toArray, List.set_cons_succ, List.set_cons_zero] at t0 t1 t2
  go_wp2_with fail
  have HC := Lib.hid (turn_any 2 0 0 w7)
  cases hok : turnOk ⟨2, 0, 0⟩ with
  | false =>
    rw [hok] at HC
    have HR : Hid (addTurn s ⟨2, 0, 0⟩ = .error 2) := Lib.hid (by unfold addTurn; rw [if_pos hok])
    clear hok
    refine HC.out.mono ?_
    rintro e w8 ⟨rfl, t8⟩
    have T8 := Lib.hid (T7a.out.trans t8)
    clear t8
    go_wp2_with fail
    go_ret
    exact RPostV.err HR.out T8.out.wide
  | true =>
    rw [hok] at HC
    by_cases hful : 4096 ≤ s.turns.length
    · have HR : Hid (addTurn s ⟨2, 0, 0⟩ = .error 4) := Lib.hid (by unfold addTurn; rw [if_neg (by rw [hok]; simp), if_pos hful])
      clear hok
      refine HC.out.mono ?_
      rintro e w8 ⟨rfl, t8⟩
      have T8 := Lib.hid (T7a.out.trans t8)
      obtain ⟨pv, cv, hpv⟩ : ∃ pv cv, v = .slice pv s.turns.length cv := by
        rcases HR0.out.own.2 with ⟨e, e2⟩ | ⟨_, _, _, e, _⟩
        · exact ⟨none, 0, by rw [e, e2]⟩
        · exact ⟨_, _, e⟩
      have B8 := (T8.out.block r (heap_lt HR0.out.blk) (fun h => h)).trans HR0.out.blk
      have k5 := cell_blk (o := 5) B8
      simp only [rcells, List.getElem?_toArray, List.getElem?_cons_succ, List.getElem?_cons_zero] at k5
      rw [hpv] at k5
      have hful : (4096 : Int) ≤ (s.turns.length : Int) := by omega
      have HPV := Lib.hid hpv
      clear t8 B8 hpv
      go_wp2_with fail
      go_ret
      exact RPostV.err HR.out T8.out.wide
    · have HR : Hid (addTurn s ⟨2, 0, 0⟩ = .ok { s with turns := s.turns ++ [⟨2, 0, 0⟩] }) := Lib.hid (by unfold addTurn; rw [if_neg (by rw [hok]; simp), if_neg hful])
      clear hok
      refine HC.out.mono ?_
      rintro e w8 ⟨rfl, t8⟩
      have T8 := Lib.hid (T7a.out.trans t8)
      have t0 := cell_turn t8 t0
      have t1 := cell_turn t8 t1
      have t2 := cell_turn t8 t2
      obtain ⟨pv, cv, hpv⟩ : ∃ pv cv, v = .slice pv s.turns.length cv := by
        rcases HR0.out.own.2 with ⟨e, e2⟩ | ⟨_, _, _, e, _⟩
        · exact ⟨none, 0, by rw [e, e2]⟩
        · exact ⟨_, _, e⟩
      have B8 := (T8.out.block r (heap_lt HR0.out.blk) (fun h => h)).trans HR0.out.blk
      have k5 := cell_blk (o := 5) B8
      simp only [rcells, List.getElem?_toArray, List.getElem?_cons_succ, List.getElem?_cons_zero] at k5
      have HPV := Lib.hid hpv
      have HK5 := Lib.hid k5
      rw [hpv] at k5
      have hful : ¬ (4096 : Int) ≤ (s.turns.length : Int) := by omega
      clear t8 B8 hpv
      go_wp2_with fail
      clear k5
      refine held_begin (STurn w3.heap.size 2 0 0) (by kernel_rfl) ?_
      generalize hwd : World.drew w8 = wd
      obtain ⟨v', W', hrun, e5, e6, eT, e7, e8, e9⟩ := push_turn (k := 2) (a := 0) (c := 0) HR0.out HB0.out T8.out hwd HST.out 24
      obtain ⟨av, nv, cv', rfl⟩ : ∃ av nv cv', v' = .slice av nv cv' := by
        rcases e7.own.2 with ⟨e, _⟩ | ⟨_, _, _, e, _⟩
        · exact ⟨_, _, _, e⟩
        · exact ⟨_, _, _, e⟩
      have hS : STurn w3.heap.size 2 0 0 wd := by rw [← hwd]; exact ⟨t0, t1, t2⟩
      have ec5 : wd.cell? ⟨r, 5, none⟩ = some v := by rw [← hwd]; exact HK5.out
      have hrl : r < wd.heap.size := World.block_lt_of_cell? wd _ ec5
      have htl2 : w3.heap.size < wd.heap.size := World.block_lt_of_cell? wd _ hS.1
      obtain ⟨eT1, eT2⟩ := eT w3.heap.size T3a.out.size (by rw [← hwd] at htl2; exact htl2)
      have t9 : Turn Nn wd (wd.alloc (.cells #[.int .i64 2, .int .i64 0, .int .i64 0] 60)) := (Turn.refl _ _).alloc _
      have HSA2 : Hid (STurn w3.heap.size 2 0 0 (wd.alloc (.cells #[.int .i64 2, .int .i64 0, .int .i64 0] 60))) := Lib.hid (by
        obtain ⟨y2, y3, y4⟩ := hS
        exact ⟨cell_turn t9 y2, cell_turn t9 y3, cell_turn t9 y4⟩)
      have HSW : Hid (STurn w3.heap.size 2 0 0 W') := Lib.hid (by
        obtain ⟨y2, y3, y4⟩ := hS
        exact ⟨(World.cell?_of_block eT1).trans y2, (World.cell?_of_block eT1).trans y3, (World.cell?_of_block eT1).trans y4⟩)
      have HSF : Hid (STurn w3.heap.size 2 0 0 (W'.setCell ⟨r, 5, none⟩ (.slice av nv cv'))) := Lib.hid (by
        obtain ⟨y2, y3, y4⟩ := hS
        exact ⟨(World.cell?_of_block eT2).trans y2, (World.cell?_of_block eT2).trans y3, (World.cell?_of_block eT2).trans y4⟩)
      have EC5a := Lib.hid (cell_turn t9 ec5)
      have EC5 := Lib.hid ec5
      have HRUN := Lib.hid hrun
      have E5 := Lib.hid e5
      have E6 := Lib.hid e6
      have E7 := Lib.hid e7
      have E8 := Lib.hid e8
      have E9 := Lib.hid e9
      have HSS := Lib.hid hS
      clear hwd hrun e5 e6 e7 e8 e9 t0 t1 t2 b15 eT eT1 eT2 t9 ec5 hS
      refine held_take 0 ?_ rfl (by kernel_rfl) (by kernel_rfl) (by kernel_rfl) (fun _ _ _ h => h) (Or.inl ⟨by kernel_rfl, ?_⟩) HSS.out ?_
      rotate_left 1
      · intro u hu; obtain ⟨y2, y3, y4⟩ := hu; go_simp; first | done | with_reducible rfl
      try simp only [Act.put, List.getElem_toArray, List.getElem_cons_succ, List.getElem_cons_zero, List.setIfInBounds_toArray, List.set_cons_succ, List.set_cons_zero]
      refine held_take 1 ?_ rfl (by kernel_rfl) (by kernel_rfl) (by kernel_rfl) (fun _ _ _ h => h) (Or.inl ⟨by kernel_rfl, ?_⟩) HSS.out ?_
      rotate_left 1
      · intro u hu; obtain ⟨y2, y3, y4⟩ := hu; go_simp; first | done | with_reducible rfl
      try simp only [Act.put, List.getElem_toArray, List.getElem_cons_succ, List.getElem_cons_zero, List.setIfInBounds_toArray, List.set_cons_succ, List.set_cons_zero]
      refine held_take 2 ?_ rfl (by kernel_rfl) (by kernel_rfl) (by kernel_rfl) (fun _ _ _ h => h) (Or.inl ⟨by kernel_rfl, ?_⟩) HSS.out ?_
      rotate_left 1
      · intro u hu; obtain ⟨y2, y3, y4⟩ := hu; go_simp; first | done | with_reducible rfl
      try simp only [Act.put, List.getElem_toArray, List.getElem_cons_succ, List.getElem_cons_zero, List.setIfInBounds_toArray, List.set_cons_succ, List.set_cons_zero]
      refine held_take 3 ?_ rfl (by kernel_rfl) (by kernel_rfl) (by kernel_rfl) (fun _ _ _ h => h) (Or.inl ⟨by kernel_rfl, ?_⟩) HSS.out ?_
      rotate_left 1
      · intro u hu; obtain ⟨y2, y3, y4⟩ := hu; go_simp; first | done | with_reducible rfl
      try simp only [Act.put, List.getElem_toArray, List.getElem_cons_succ, List.getElem_cons_zero, List.setIfInBounds_toArray, List.set_cons_succ, List.set_cons_zero]
      refine held_take 4 ?_ rfl (by kernel_rfl) (by kernel_rfl) (by kernel_rfl) (fun _ _ _ h => h) (Or.inl ⟨by kernel_rfl, ?_⟩) HSS.out ?_
      rotate_left 1
      · intro u hu; obtain ⟨y2, y3, y4⟩ := hu; go_simp; first | done | with_reducible rfl
      try simp only [Act.put, List.getElem_toArray, List.getElem_cons_succ, List.getElem_cons_zero, List.setIfInBounds_toArray, List.set_cons_succ, List.set_cons_zero]
      refine held_take 6 ?_ rfl (by kernel_rfl) (by kernel_rfl) (by kernel_rfl) (fun _ _ _ h => h) (Or.inl ⟨by kernel_rfl, ?_⟩) HSS.out ?_
      rotate_left 1
      · intro u hu; obtain ⟨y2, y3, y4⟩ := hu; go_simp; first | done | with_reducible rfl
      try simp only [Act.put, List.getElem_toArray, List.getElem_cons_succ, List.getElem_cons_zero, List.setIfInBounds_toArray, List.set_cons_succ, List.set_cons_zero]
      refine held_pair 5 7 (by kernel_rfl) rfl rfl (by kernel_rfl) (by kernel_rfl) (fun Ka hKa => ?_) (fun Ka hKa => ?_)
      · have e5 := EC5.out
        go_simp
        refine hKa _ _ HSS.out ?_
        clear hKa Ka e5
        try simp only [Act.put, List.getElem_toArray, List.getElem_cons_succ, List.getElem_cons_zero, List.setIfInBounds_toArray, List.set_cons_succ, List.set_cons_zero]
        refine held_one 7 (by kernel_rfl) rfl (by kernel_rfl) (fun Kd hKd => ?_)
        go_simp
        refine hKd _ _ HSA2.out ?_
        clear hKd Kd
        try simp only [Act.put, List.getElem_toArray, List.getElem_cons_succ, List.getElem_cons_zero, List.setIfInBounds_toArray, List.set_cons_succ, List.set_cons_zero]
        refine held_one 8 (by kernel_rfl) rfl (by kernel_rfl) (fun Kb hKb => ?_)
        refine oper_append_eq _ _ 24 rfl _ _ rfl rfl HRUN.out ?_
        refine hKb _ _ HSW.out ?_
        clear hKb Kb
        try simp only [Act.put, List.getElem_toArray, List.getElem_cons_succ, List.getElem_cons_zero, List.setIfInBounds_toArray, List.set_cons_succ, List.set_cons_zero]
        refine held_take 9 ?_ rfl (by kernel_rfl) (by kernel_rfl) (by kernel_rfl) (fun _ _ _ h => h) (Or.inl ⟨by kernel_rfl, ?_⟩) HSW.out ?_
        rotate_left 1
        · intro u hu; obtain ⟨y2, y3, y4⟩ := hu; go_simp; first | done | with_reducible rfl
        try simp only [Act.put, List.getElem_toArray, List.getElem_cons_succ, List.getElem_cons_zero, List.setIfInBounds_toArray, List.set_cons_succ, List.set_cons_zero]
        refine held_take 10 ?_ rfl (by kernel_rfl) (by kernel_rfl) (by kernel_rfl) (fun _ _ _ h => h) (Or.inl ⟨by kernel_rfl, ?_⟩) HSW.out ?_
        rotate_left 1
        · intro u hu; obtain ⟨y2, y3, y4⟩ := hu; go_simp; first | done | with_reducible rfl
        try simp only [Act.put, List.getElem_toArray, List.getElem_cons_succ, List.getElem_cons_zero, List.setIfInBounds_toArray, List.set_cons_succ, List.set_cons_zero]
        refine held_take 11 ?_ rfl (by kernel_rfl) (by kernel_rfl) (by kernel_rfl) (fun _ _ _ h => h) (Or.inl ⟨by kernel_rfl, ?_⟩) HSW.out ?_
        rotate_left 1
        · intro u hu; obtain ⟨y2, y3, y4⟩ := hu; go_simp; first | done | with_reducible rfl
        try simp only [Act.put, List.getElem_toArray, List.getElem_cons_succ, List.getElem_cons_zero, List.setIfInBounds_toArray, List.set_cons_succ, List.set_cons_zero]
        refine held_one 12 (by kernel_rfl) rfl (by kernel_rfl) (fun Kc hKc => ?_)
        have e5 := E5.out
        have e6 := E6.out
        go_simp
        refine hKc _ _ HSF.out ?_
        clear hKc Kc e5 e6
        try simp only [Act.put, List.getElem_toArray, List.getElem_cons_succ, List.getElem_cons_zero, List.setIfInBounds_toArray, List.set_cons_succ, List.set_cons_zero]
        refine wpAnyH_done (by kernel_rfl) ?_ _
        go_wp2_with fail
        go_ret
        exact RPostV.good HR.out E7.out E8.out E9.out
      · go_simp
        refine hKa _ _ HSA2.out ?_
        clear hKa Ka
        try simp only [Act.put, List.getElem_toArray, List.getElem_cons_succ, List.getElem_cons_zero, List.setIfInBounds_toArray, List.set_cons_succ, List.set_cons_zero]
        refine held_one 5 (by kernel_rfl) rfl (by kernel_rfl) (fun Kd hKd => ?_)
        have e5 := EC5a.out
        go_simp
        refine hKd _ _ HSA2.out ?_
        clear hKd Kd e5
        try simp only [Act.put, List.getElem_toArray, List.getElem_cons_succ, List.getElem_cons_zero, List.setIfInBounds_toArray, List.set_cons_succ, List.set_cons_zero]
        refine held_one 8 (by kernel_rfl) rfl (by kernel_rfl) (fun Kb hKb => ?_)
        refine oper_append_eq _ _ 24 rfl _ _ rfl rfl HRUN.out ?_
        refine hKb _ _ HSW.out ?_
        clear hKb Kb
        try simp only [Act.put, List.getElem_toArray, List.getElem_cons_succ, List.getElem_cons_zero, List.setIfInBounds_toArray, List.set_cons_succ, List.set_cons_zero]
        refine held_take 9 ?_ rfl (by kernel_rfl) (by kernel_rfl) (by kernel_rfl) (fun _ _ _ h => h) (Or.inl ⟨by kernel_rfl, ?_⟩) HSW.out ?_
        rotate_left 1
        · intro u hu; obtain ⟨y2, y3, y4⟩ := hu; go_simp; first | done | with_reducible rfl
        try simp only [Act.put, List.getElem_toArray, List.getElem_cons_succ, List.getElem_cons_zero, List.setIfInBounds_toArray, List.set_cons_succ, List.set_cons_zero]
        refine held_take 10 ?_ rfl (by kernel_rfl) (by kernel_rfl) (by kernel_rfl) (fun _ _ _ h => h) (Or.inl ⟨by kernel_rfl, ?_⟩) HSW.out ?_
        rotate_left 1
        · intro u hu; obtain ⟨y2, y3, y4⟩ := hu; go_simp; first | done | with_reducible rfl
        try simp only [Act.put, List.getElem_toArray, List.getElem_cons_succ, List.getElem_cons_zero, List.setIfInBounds_toArray, List.set_cons_succ, List.set_cons_zero]
        refine held_take 11 ?_ rfl (by kernel_rfl) (by kernel_rfl) (by kernel_rfl) (fun _ _ _ h => h) (Or.inl ⟨by kernel_rfl, ?_⟩) HSW.out ?_
        rotate_left 1
        · intro u hu; obtain ⟨y2, y3, y4⟩ := hu; go_simp; first | done | with_reducible rfl
        try simp only [Act.put, List.getElem_toArray, List.getElem_cons_succ, List.getElem_cons_zero, List.setIfInBounds_toArray, List.set_cons_succ, List.set_cons_zero]
        refine held_one 12 (by kernel_rfl) rfl (by kernel_rfl) (fun Kc hKc => ?_)
        have e5 := E5.out
        have e6 := E6.out
        go_simp
        refine hKc _ _ HSF.out ?_
        clear hKc Kc e5 e6
        try simp only [Act.put, List.getElem_toArray, List.getElem_cons_succ, List.getElem_cons_zero, List.setIfInBounds_toArray, List.set_cons_succ, List.set_cons_zero]
        refine wpAnyH_done (by kernel_rfl) ?_ _
        go_wp2_with fail
        go_ret
        exact RPostV.good HR.out E7.out E8.out E9.out

set_option maxRecDepth 100000 in
set_option maxHeartbeats 16000000 in
theorem rturn_2_long {w0 w : World} {r : Nat} {s : ScriptD} {v : Value} {b o n cap : Nat} {A : List Bs} {M : List Nat} (h0 : Laid w0) (hb0 : Below w0.heap.size w0 w) (h : RAt w w0.heap.size r 2 s v) (hst : s.turns.length ≤ 4096) (hn : n = A.length + 1) (hc : ∀ i, i < n → w.cell? ⟨b, o + i, none⟩ = some (.string ⟨((wShow :: A)[i]?.getD []).toArray⟩)) (hcap : n ≤ cap)
    (hL : A.length ≤ 900000) (hs : ∀ i, i < A.length → (A[i]?.getD []).length ≤ 1000000) (hA : numsL A = some M) (hM : 0 < M.length) :
    Calls Tryz.prog 75 #[.pointer (some ⟨r, 0, none⟩), .slice (some ⟨b, o, none⟩) n cap] w (RPostV w w0.heap.size r 2 v (.error 5)) := by
  obtain ⟨pa, hs1, hs2, hsl⟩ := tail_run hc hn hcap
  have c0 : w.cell? ⟨b, o, none⟩ = some (.string ⟨#[115, 104, 111, 119]⟩) := hc 0 (by omega)
  have HSA := Lib.hid hs
  have HR0 := Lib.hid h
  have HB0 := Lib.hid hb0
  have HL0 := Lib.hid (h0.below hb0)
  have HLW := Lib.hid hL
  have HSL := Lib.hid hsl
  have HN := Lib.hid hn
  have HNA := Lib.hid hA
  have HST := Lib.hid hst
  have hpos : (1 : Int) ≤ (n : Int) := by omega
  clear hc hn hs h hb0 h0 hsl hA hL hst
  have i0 := kindsAt0
  have i1 := kindsAt1
  have i2 := kindsAt2
  have i3 := kindsAt3
  go_enter Tryz.func75, Tryz.ntmps75
  go_wp2_with fail
  refine (kinds_any _).mono ?_
  rintro e w1 ⟨rfl, hw1⟩
  have T0 : Hid (Turn Nn w w1) := by rw [hw1]; exact Lib.hid ((Turn.refl _ _).alloc _)
  clear hw1
  obtain ⟨q0, hq0⟩ : ∃ q, w1 = q := ⟨_, rfl⟩
  rw [hq0] at T0 ⊢
  clear hq0 w1
  go_wp2_with fail
  refine wp_loop_rounds 5 ?_
  rw [rounds_succ]
  go_wp2_with fail
  refine (numbers_skip (x := true) (HSL.out.turn (T0.out.alloc _)) (by have := HLW.out; omega) HSA.out (HL0.out.turn (T0.out.alloc _)) (by rw [HNA.out]; rfl)).mono ?_
  rintro e u0 ⟨v0, rfl, ht⟩
  obtain ⟨x0, x1, x2⟩ := kcell ht
  have d0 := cell_turn ((T0.out.alloc _).trans ht) c0
  have U0 := Lib.hid ((T0.out.alloc _).trans ht)
  clear ht x1 x2
  go_wp2_with fail
  go_quiet (fail)
  generalize hq : World.drewN u0 _ = q1
  have T1 : Hid (Turn Nn w q1) := by rw [← hq]; exact Lib.hid (U0.out.drewN _)
  clear hq x0 d0
  go_wp2_with fail
  rw [rounds_succ]
  go_wp2_with fail
  refine (numbers_skip (x := true) (HSL.out.turn (T1.out.alloc _)) (by have := HLW.out; omega) HSA.out (HL0.out.turn (T1.out.alloc _)) (by rw [HNA.out]; rfl)).mono ?_
  rintro e u1 ⟨v1, rfl, ht⟩
  obtain ⟨x0, x1, x2⟩ := kcell ht
  have d0 := cell_turn ((T1.out.alloc _).trans ht) c0
  have U1 := Lib.hid ((T1.out.alloc _).trans ht)
  clear ht x1 x2
  go_wp2_with fail
  go_quiet (fail)
  generalize hq : World.drewN u1 _ = q2
  have T2 : Hid (Turn Nn w q2) := by rw [← hq]; exact Lib.hid (U1.out.drewN _)
  clear hq x0 d0
  go_wp2_with fail
  rw [rounds_succ]
  go_wp2_with fail
  refine (numbers_some HNA.out (HSL.out.turn (T2.out.alloc _)) (by have := HLW.out; omega) HSA.out (HL0.out.turn (T2.out.alloc _))).mono ?_
  rintro e w2 ⟨pa2, cap2, rfl, hown, ht2⟩
  obtain ⟨x0, x1, x2⟩ := kcell ht2
  have d0 := cell_turn ((T2.out.alloc _).trans ht2) c0
  have T2a := Lib.hid ((T2.out.alloc _).trans ht2)
  have hM1 : (0 : Int) < (M.length : Int) := by omega
  clear hown
  have HM := Lib.hid hM
  clear hM
  clear ht2 c0
  go_wp2_with fail
  go_quiet (fail)
  generalize hw3 : World.drewN w2 _ = w3
  have t3 : Turn Nn w2 w3 := hw3 ▸ (Turn.refl Nn w2).drewN _
  have x1 := cell_turn t3 x1
  have x2 := cell_turn t3 x2
  clear x0
  have T3a := Lib.hid (T2a.out.trans t3)
  have hkl := World.block_lt_of_cell? w3 _ x1
  clear hw3 t3 d0
  go_wp2_with fail
  refine wp_loop_rounds 3 ?_
  rw [rounds_succ]
  go_wp2_with fail
  go_wp2_with fail
  rw [rounds_succ]
  go_wp2_with fail
  go_wp2_with fail
  rw [rounds_succ]
  generalize hw7 : World.alloc (World.alloc (World.alloc (World.alloc w3 _) _) _) _ = w7
  obtain ⟨b15, _, _, _, t7⟩ := alloc4 hw7
  have T7a := Lib.hid (T3a.out.trans t7)
  clear hw7 t7 x1 x2
  clear b15
  go_wp2_with fail
  go_ret
  exact RPostV.err rfl T7a.out.wide

set_option maxRecDepth 100000 in
set_option maxHeartbeats 16000000 in
theorem rturn_3_0 {w0 w : World} {r : Nat} {s : ScriptD} {v : Value} {b o n cap : Nat} {A : List Bs} (h0 : Laid w0) (hb0 : Below w0.heap.size w0 w) (h : RAt w w0.heap.size r 2 s v) (hst : s.turns.length ≤ 4096) (hn : n = A.length + 1) (hc : ∀ i, i < n → w.cell? ⟨b, o + i, none⟩ = some (.string ⟨((wRows :: A)[i]?.getD []).toArray⟩)) (hcap : n ≤ cap)
    (hL : A.length ≤ 900000) (hs : ∀ i, i < A.length → (A[i]?.getD []).length ≤ 1000000) (hA : numsL A = some []) :
    Calls Tryz.prog 75 #[.pointer (some ⟨r, 0, none⟩), .slice (some ⟨b, o, none⟩) n cap] w (RPostV w w0.heap.size r 2 v (addTurn s ⟨3, 0, 0⟩)) := by
  obtain ⟨pa, hs1, hs2, hsl⟩ := tail_run hc hn hcap
  have c0 : w.cell? ⟨b, o, none⟩ = some (.string ⟨#[114, 111, 119, 115]⟩) := hc 0 (by omega)
  have HSA := Lib.hid hs
  have HR0 := Lib.hid h
  have HB0 := Lib.hid hb0
  have HL0 := Lib.hid (h0.below hb0)
  have HLW := Lib.hid hL
  have HSL := Lib.hid hsl
  have HN := Lib.hid hn
  have HNA := Lib.hid hA
  have HST := Lib.hid hst
  have hpos : (1 : Int) ≤ (n : Int) := by omega
  clear hc hn hs h hb0 h0 hsl hA hL hst
  have i0 := kindsAt0
  have i1 := kindsAt1
  have i2 := kindsAt2
  have i3 := kindsAt3
  go_enter Tryz.func75, Tryz.ntmps75
  go_wp2_with fail
  refine (kinds_any _).mono ?_
  rintro e w1 ⟨rfl, hw1⟩
  have T0 : Hid (Turn Nn w w1) := by rw [hw1]; exact Lib.hid ((Turn.refl _ _).alloc _)
  clear hw1
  obtain ⟨q0, hq0⟩ : ∃ q, w1 = q := ⟨_, rfl⟩
  rw [hq0] at T0 ⊢
  clear hq0 w1
  go_wp2_with fail
  refine wp_loop_rounds 5 ?_
  rw [rounds_succ]
  go_wp2_with fail
  refine (numbers_skip (x := true) (HSL.out.turn (T0.out.alloc _)) (by have := HLW.out; omega) HSA.out (HL0.out.turn (T0.out.alloc _)) (by rw [HNA.out]; rfl)).mono ?_
  rintro e u0 ⟨v0, rfl, ht⟩
  obtain ⟨x0, x1, x2⟩ := kcell ht
  have d0 := cell_turn ((T0.out.alloc _).trans ht) c0
  have U0 := Lib.hid ((T0.out.alloc _).trans ht)
  clear ht x1 x2
  go_wp2_with fail
  go_quiet (fail)
  generalize hq : World.drewN u0 _ = q1
  have T1 : Hid (Turn Nn w q1) := by rw [← hq]; exact Lib.hid (U0.out.drewN _)
  clear hq x0 d0
  go_wp2_with fail
  rw [rounds_succ]
  go_wp2_with fail
  refine (numbers_skip (x := true) (HSL.out.turn (T1.out.alloc _)) (by have := HLW.out; omega) HSA.out (HL0.out.turn (T1.out.alloc _)) (by rw [HNA.out]; rfl)).mono ?_
  rintro e u1 ⟨v1, rfl, ht⟩
  obtain ⟨x0, x1, x2⟩ := kcell ht
  have d0 := cell_turn ((T1.out.alloc _).trans ht) c0
  have U1 := Lib.hid ((T1.out.alloc _).trans ht)
  clear ht x1 x2
  go_wp2_with fail
  go_quiet (fail)
  generalize hq : World.drewN u1 _ = q2
  have T2 : Hid (Turn Nn w q2) := by rw [← hq]; exact Lib.hid (U1.out.drewN _)
  clear hq x0 d0
  go_wp2_with fail
  rw [rounds_succ]
  go_wp2_with fail
  refine (numbers_skip (x := true) (HSL.out.turn (T2.out.alloc _)) (by have := HLW.out; omega) HSA.out (HL0.out.turn (T2.out.alloc _)) (by rw [HNA.out]; rfl)).mono ?_
  rintro e u2 ⟨v2, rfl, ht⟩
  obtain ⟨x0, x1, x2⟩ := kcell ht
  have d0 := cell_turn ((T2.out.alloc _).trans ht) c0
  have U2 := Lib.hid ((T2.out.alloc _).trans ht)
  clear ht x1 x2
  go_wp2_with fail
  go_quiet (fail)
  generalize hq : World.drewN u2 _ = q3
  have T3 : Hid (Turn Nn w q3) := by rw [← hq]; exact Lib.hid (U2.out.drewN _)
  clear hq x0 d0
  go_wp2_with fail
  rw [rounds_succ]
  go_wp2_with fail
  refine (numbers_some HNA.out (HSL.out.turn (T3.out.alloc _)) (by have := HLW.out; omega) HSA.out (HL0.out.turn (T3.out.alloc _))).mono ?_
  rintro e w2 ⟨pa2, cap2, rfl, hown, ht2⟩
  obtain ⟨x0, x1, x2⟩ := kcell ht2
  have d0 := cell_turn ((T3.out.alloc _).trans ht2) c0
  have T2a := Lib.hid ((T3.out.alloc _).trans ht2)
  clear hown
  clear ht2 c0
  go_wp2_with fail
  go_quiet (fail)
  generalize hw3 : World.drewN w2 _ = w3
  have t3 : Turn Nn w2 w3 := hw3 ▸ (Turn.refl Nn w2).drewN _
  have x1 := cell_turn t3 x1
  have x2 := cell_turn t3 x2
  clear x0
  have T3a := Lib.hid (T2a.out.trans t3)
  have hkl := World.block_lt_of_cell? w3 _ x1
  clear hw3 t3 d0
  go_wp2_with fail
  refine wp_loop_rounds 3 ?_
  rw [rounds_succ]
  go_wp2_with fail
  go_wp2_with fail
  rw [rounds_succ]
  go_wp2_with fail
  go_wp2_with fail
  rw [rounds_succ]
  generalize hw7 : World.alloc (World.alloc (World.alloc (World.alloc w3 _) _) _) _ = w7
  obtain ⟨b15, _, _, _, t7⟩ := alloc4 hw7
  have T7a := Lib.hid (T3a.out.trans t7)
  clear hw7 t7 x1 x2
  have t0 := cell_blk (o := 0) b15
  have t1 := cell_blk (o := 1) b15
  have t2 := cell_blk (o := 2) b15
  simp only [List.getElem?_toArray, List.getElem?_cons_succ, List.getElem?_cons_zero, List.setIfInBounds_toArray, List.set_cons_succ, List.set_cons_zero] at t0 t1 t2
  go_wp2_with fail
  have HC := Lib.hid (turn_any 3 0 0 w7)
  cases hok : turnOk ⟨3, 0, 0⟩ with
  | false =>
    rw [hok] at HC
    have HR : Hid (addTurn s ⟨3, 0, 0⟩ = .error 2) := Lib.hid (by unfold addTurn; rw [if_pos hok])
    clear hok
    refine HC.out.mono ?_
    rintro e w8 ⟨rfl, t8⟩
    have T8 := Lib.hid (T7a.out.trans t8)
    clear t8
    go_wp2_with fail
    go_ret
    exact RPostV.err HR.out T8.out.wide
  | true =>
    rw [hok] at HC
    by_cases hful : 4096 ≤ s.turns.length
    · have HR : Hid (addTurn s ⟨3, 0, 0⟩ = .error 4) := Lib.hid (by unfold addTurn; rw [if_neg (by rw [hok]; simp), if_pos hful])
      clear hok
      refine HC.out.mono ?_
      rintro e w8 ⟨rfl, t8⟩
      have T8 := Lib.hid (T7a.out.trans t8)
      obtain ⟨pv, cv, hpv⟩ : ∃ pv cv, v = .slice pv s.turns.length cv := by
        rcases HR0.out.own.2 with ⟨e, e2⟩ | ⟨_, _, _, e, _⟩
        · exact ⟨none, 0, by rw [e, e2]⟩
        · exact ⟨_, _, e⟩
      have B8 := (T8.out.block r (heap_lt HR0.out.blk) (fun h => h)).trans HR0.out.blk
      have k5 := cell_blk (o := 5) B8
      simp only [rcells, List.getElem?_toArray, List.getElem?_cons_succ, List.getElem?_cons_zero] at k5
      rw [hpv] at k5
      have hful : (4096 : Int) ≤ (s.turns.length : Int) := by omega
      have HPV := Lib.hid hpv
      clear t8 B8 hpv
      go_wp2_with fail
      go_ret
      exact RPostV.err HR.out T8.out.wide
    · have HR : Hid (addTurn s ⟨3, 0, 0⟩ = .ok { s with turns := s.turns ++ [⟨3, 0, 0⟩] }) := Lib.hid (by unfold addTurn; rw [if_neg (by rw [hok]; simp), if_neg hful])
      clear hok
      refine HC.out.mono ?_
      rintro e w8 ⟨rfl, t8⟩
      have T8 := Lib.hid (T7a.out.trans t8)
      have t0 := cell_turn t8 t0
      have t1 := cell_turn t8 t1
      have t2 := cell_turn t8 t2
      obtain ⟨pv, cv, hpv⟩ : ∃ pv cv, v = .slice pv s.turns.length cv := by
        rcases HR0.out.own.2 with ⟨e, e2⟩ | ⟨_, _, _, e, _⟩
        · exact ⟨none, 0, by rw [e, e2]⟩
        · exact ⟨_, _, e⟩
      have B8 := (T8.out.block r (heap_lt HR0.out.blk) (fun h => h)).trans HR0.out.blk
      have k5 := cell_blk (o := 5) B8
      simp only [rcells, List.getElem?_toArray, List.getElem?_cons_succ, List.getElem?_cons_zero] at k5
      have HPV := Lib.hid hpv
      have HK5 := Lib.hid k5
      rw [hpv] at k5
      have hful : ¬ (4096 : Int) ≤ (s.turns.length : Int) := by omega
      clear t8 B8 hpv
      go_wp2_with fail
      clear k5
      refine held_begin (STurn w3.heap.size 3 0 0) (by kernel_rfl) ?_
      generalize hwd : World.drew w8 = wd
      obtain ⟨v', W', hrun, e5, e6, eT, e7, e8, e9⟩ := push_turn (k := 3) (a := 0) (c := 0) HR0.out HB0.out T8.out hwd HST.out 24
      obtain ⟨av, nv, cv', rfl⟩ : ∃ av nv cv', v' = .slice av nv cv' := by
        rcases e7.own.2 with ⟨e, _⟩ | ⟨_, _, _, e, _⟩
        · exact ⟨_, _, _, e⟩
        · exact ⟨_, _, _, e⟩
      have hS : STurn w3.heap.size 3 0 0 wd := by rw [← hwd]; exact ⟨t0, t1, t2⟩
      have ec5 : wd.cell? ⟨r, 5, none⟩ = some v := by rw [← hwd]; exact HK5.out
      have hrl : r < wd.heap.size := World.block_lt_of_cell? wd _ ec5
      have htl2 : w3.heap.size < wd.heap.size := World.block_lt_of_cell? wd _ hS.1
      obtain ⟨eT1, eT2⟩ := eT w3.heap.size T3a.out.size (by rw [← hwd] at htl2; exact htl2)
      have t9 : Turn Nn wd (wd.alloc (.cells #[.int .i64 3, .int .i64 0, .int .i64 0] 60)) := (Turn.refl _ _).alloc _
      have HSA2 : Hid (STurn w3.heap.size 3 0 0 (wd.alloc (.cells #[.int .i64 3, .int .i64 0, .int .i64 0] 60))) := Lib.hid (by
        obtain ⟨y2, y3, y4⟩ := hS
        exact ⟨cell_turn t9 y2, cell_turn t9 y3, cell_turn t9 y4⟩)
      have HSW : Hid (STurn w3.heap.size 3 0 0 W') := Lib.hid (by
        obtain ⟨y2, y3, y4⟩ := hS
        exact ⟨(World.cell?_of_block eT1).trans y2, (World.cell?_of_block eT1).trans y3, (World.cell?_of_block eT1).trans y4⟩)
      have HSF : Hid (STurn w3.heap.size 3 0 0 (W'.setCell ⟨r, 5, none⟩ (.slice av nv cv'))) := Lib.hid (by
        obtain ⟨y2, y3, y4⟩ := hS
        exact ⟨(World.cell?_of_block eT2).trans y2, (World.cell?_of_block eT2).trans y3, (World.cell?_of_block eT2).trans y4⟩)
      have EC5a := Lib.hid (cell_turn t9 ec5)
      have EC5 := Lib.hid ec5
      have HRUN := Lib.hid hrun
      have E5 := Lib.hid e5
      have E6 := Lib.hid e6
      have E7 := Lib.hid e7
      have E8 := Lib.hid e8
      have E9 := Lib.hid e9
      have HSS := Lib.hid hS
      clear hwd hrun e5 e6 e7 e8 e9 t0 t1 t2 b15 eT eT1 eT2 t9 ec5 hS
      refine held_take 0 ?_ rfl (by kernel_rfl) (by kernel_rfl) (by kernel_rfl) (fun _ _ _ h => h) (Or.inl ⟨by kernel_rfl, ?_⟩) HSS.out ?_
      rotate_left 1
      · intro u hu; obtain ⟨y2, y3, y4⟩ := hu; go_simp; first | done | with_reducible rfl
      try simp only [Act.put, List.getElem_toArray, List.getElem_cons_succ, List.getElem_cons_zero, List.setIfInBounds_toArray, List.set_cons_succ, List.set_cons_zero]
      refine held_take 1 ?_ rfl (by kernel_rfl) (by kernel_rfl) (by kernel_rfl) (fun _ _ _ h => h) (Or.inl ⟨by kernel_rfl, ?_⟩) HSS.out ?_
      rotate_left 1
      · intro u hu; obtain ⟨y2, y3, y4⟩ := hu; go_simp; first | done | with_reducible rfl
      try simp only [Act.put, List.getElem_toArray, List.getElem_cons_succ, List.getElem_cons_zero, List.setIfInBounds_toArray, List.set_cons_succ, List.set_cons_zero]
      refine held_take 2 ?_ rfl (by kernel_rfl) (by kernel_rfl) (by kernel_rfl) (fun _ _ _ h => h) (Or.inl ⟨by kernel_rfl, ?_⟩) HSS.out ?_
      rotate_left 1
      · intro u hu; obtain ⟨y2, y3, y4⟩ := hu; go_simp; first | done | with_reducible rfl
      try simp only [Act.put, List.getElem_toArray, List.getElem_cons_succ, List.getElem_cons_zero, List.setIfInBounds_toArray, List.set_cons_succ, List.set_cons_zero]
      refine held_take 3 ?_ rfl (by kernel_rfl) (by kernel_rfl) (by kernel_rfl) (fun _ _ _ h => h) (Or.inl ⟨by kernel_rfl, ?_⟩) HSS.out ?_
      rotate_left 1
      · intro u hu; obtain ⟨y2, y3, y4⟩ := hu; go_simp; first | done | with_reducible rfl
      try simp only [Act.put, List.getElem_toArray, List.getElem_cons_succ, List.getElem_cons_zero, List.setIfInBounds_toArray, List.set_cons_succ, List.set_cons_zero]
      refine held_take 4 ?_ rfl (by kernel_rfl) (by kernel_rfl) (by kernel_rfl) (fun _ _ _ h => h) (Or.inl ⟨by kernel_rfl, ?_⟩) HSS.out ?_
      rotate_left 1
      · intro u hu; obtain ⟨y2, y3, y4⟩ := hu; go_simp; first | done | with_reducible rfl
      try simp only [Act.put, List.getElem_toArray, List.getElem_cons_succ, List.getElem_cons_zero, List.setIfInBounds_toArray, List.set_cons_succ, List.set_cons_zero]
      refine held_take 6 ?_ rfl (by kernel_rfl) (by kernel_rfl) (by kernel_rfl) (fun _ _ _ h => h) (Or.inl ⟨by kernel_rfl, ?_⟩) HSS.out ?_
      rotate_left 1
      · intro u hu; obtain ⟨y2, y3, y4⟩ := hu; go_simp; first | done | with_reducible rfl
      try simp only [Act.put, List.getElem_toArray, List.getElem_cons_succ, List.getElem_cons_zero, List.setIfInBounds_toArray, List.set_cons_succ, List.set_cons_zero]
      refine held_pair 5 7 (by kernel_rfl) rfl rfl (by kernel_rfl) (by kernel_rfl) (fun Ka hKa => ?_) (fun Ka hKa => ?_)
      · have e5 := EC5.out
        go_simp
        refine hKa _ _ HSS.out ?_
        clear hKa Ka e5
        try simp only [Act.put, List.getElem_toArray, List.getElem_cons_succ, List.getElem_cons_zero, List.setIfInBounds_toArray, List.set_cons_succ, List.set_cons_zero]
        refine held_one 7 (by kernel_rfl) rfl (by kernel_rfl) (fun Kd hKd => ?_)
        go_simp
        refine hKd _ _ HSA2.out ?_
        clear hKd Kd
        try simp only [Act.put, List.getElem_toArray, List.getElem_cons_succ, List.getElem_cons_zero, List.setIfInBounds_toArray, List.set_cons_succ, List.set_cons_zero]
        refine held_one 8 (by kernel_rfl) rfl (by kernel_rfl) (fun Kb hKb => ?_)
        refine oper_append_eq _ _ 24 rfl _ _ rfl rfl HRUN.out ?_
        refine hKb _ _ HSW.out ?_
        clear hKb Kb
        try simp only [Act.put, List.getElem_toArray, List.getElem_cons_succ, List.getElem_cons_zero, List.setIfInBounds_toArray, List.set_cons_succ, List.set_cons_zero]
        refine held_take 9 ?_ rfl (by kernel_rfl) (by kernel_rfl) (by kernel_rfl) (fun _ _ _ h => h) (Or.inl ⟨by kernel_rfl, ?_⟩) HSW.out ?_
        rotate_left 1
        · intro u hu; obtain ⟨y2, y3, y4⟩ := hu; go_simp; first | done | with_reducible rfl
        try simp only [Act.put, List.getElem_toArray, List.getElem_cons_succ, List.getElem_cons_zero, List.setIfInBounds_toArray, List.set_cons_succ, List.set_cons_zero]
        refine held_take 10 ?_ rfl (by kernel_rfl) (by kernel_rfl) (by kernel_rfl) (fun _ _ _ h => h) (Or.inl ⟨by kernel_rfl, ?_⟩) HSW.out ?_
        rotate_left 1
        · intro u hu; obtain ⟨y2, y3, y4⟩ := hu; go_simp; first | done | with_reducible rfl
        try simp only [Act.put, List.getElem_toArray, List.getElem_cons_succ, List.getElem_cons_zero, List.setIfInBounds_toArray, List.set_cons_succ, List.set_cons_zero]
        refine held_take 11 ?_ rfl (by kernel_rfl) (by kernel_rfl) (by kernel_rfl) (fun _ _ _ h => h) (Or.inl ⟨by kernel_rfl, ?_⟩) HSW.out ?_
        rotate_left 1
        · intro u hu; obtain ⟨y2, y3, y4⟩ := hu; go_simp; first | done | with_reducible rfl
        try simp only [Act.put, List.getElem_toArray, List.getElem_cons_succ, List.getElem_cons_zero, List.setIfInBounds_toArray, List.set_cons_succ, List.set_cons_zero]
        refine held_one 12 (by kernel_rfl) rfl (by kernel_rfl) (fun Kc hKc => ?_)
        have e5 := E5.out
        have e6 := E6.out
        go_simp
        refine hKc _ _ HSF.out ?_
        clear hKc Kc e5 e6
        try simp only [Act.put, List.getElem_toArray, List.getElem_cons_succ, List.getElem_cons_zero, List.setIfInBounds_toArray, List.set_cons_succ, List.set_cons_zero]
        refine wpAnyH_done (by kernel_rfl) ?_ _
        go_wp2_with fail
        go_ret
        exact RPostV.good HR.out E7.out E8.out E9.out
      · go_simp
        refine hKa _ _ HSA2.out ?_
        clear hKa Ka
        try simp only [Act.put, List.getElem_toArray, List.getElem_cons_succ, List.getElem_cons_zero, List.setIfInBounds_toArray, List.set_cons_succ, List.set_cons_zero]
        refine held_one 5 (by kernel_rfl) rfl (by kernel_rfl) (fun Kd hKd => ?_)
        have e5 := EC5a.out
        go_simp
        refine hKd _ _ HSA2.out ?_
        clear hKd Kd e5
        try simp only [Act.put, List.getElem_toArray, List.getElem_cons_succ, List.getElem_cons_zero, List.setIfInBounds_toArray, List.set_cons_succ, List.set_cons_zero]
        refine held_one 8 (by kernel_rfl) rfl (by kernel_rfl) (fun Kb hKb => ?_)
        refine oper_append_eq _ _ 24 rfl _ _ rfl rfl HRUN.out ?_
        refine hKb _ _ HSW.out ?_
        clear hKb Kb
        try simp only [Act.put, List.getElem_toArray, List.getElem_cons_succ, List.getElem_cons_zero, List.setIfInBounds_toArray, List.set_cons_succ, List.set_cons_zero]
        refine held_take 9 ?_ rfl (by kernel_rfl) (by kernel_rfl) (by kernel_rfl) (fun _ _ _ h => h) (Or.inl ⟨by kernel_rfl, ?_⟩) HSW.out ?_
        rotate_left 1
        · intro u hu; obtain ⟨y2, y3, y4⟩ := hu; go_simp; first | done | with_reducible rfl
        try simp only [Act.put, List.getElem_toArray, List.getElem_cons_succ, List.getElem_cons_zero, List.setIfInBounds_toArray, List.set_cons_succ, List.set_cons_zero]
        refine held_take 10 ?_ rfl (by kernel_rfl) (by kernel_rfl) (by kernel_rfl) (fun _ _ _ h => h) (Or.inl ⟨by kernel_rfl, ?_⟩) HSW.out ?_
        rotate_left 1
        · intro u hu; obtain ⟨y2, y3, y4⟩ := hu; go_simp; first | done | with_reducible rfl
        try simp only [Act.put, List.getElem_toArray, List.getElem_cons_succ, List.getElem_cons_zero, List.setIfInBounds_toArray, List.set_cons_succ, List.set_cons_zero]
        refine held_take 11 ?_ rfl (by kernel_rfl) (by kernel_rfl) (by kernel_rfl) (fun _ _ _ h => h) (Or.inl ⟨by kernel_rfl, ?_⟩) HSW.out ?_
        rotate_left 1
        · intro u hu; obtain ⟨y2, y3, y4⟩ := hu; go_simp; first | done | with_reducible rfl
        try simp only [Act.put, List.getElem_toArray, List.getElem_cons_succ, List.getElem_cons_zero, List.setIfInBounds_toArray, List.set_cons_succ, List.set_cons_zero]
        refine held_one 12 (by kernel_rfl) rfl (by kernel_rfl) (fun Kc hKc => ?_)
        have e5 := E5.out
        have e6 := E6.out
        go_simp
        refine hKc _ _ HSF.out ?_
        clear hKc Kc e5 e6
        try simp only [Act.put, List.getElem_toArray, List.getElem_cons_succ, List.getElem_cons_zero, List.setIfInBounds_toArray, List.set_cons_succ, List.set_cons_zero]
        refine wpAnyH_done (by kernel_rfl) ?_ _
        go_wp2_with fail
        go_ret
        exact RPostV.good HR.out E7.out E8.out E9.out

set_option maxRecDepth 100000 in
set_option maxHeartbeats 16000000 in
theorem rturn_3_long {w0 w : World} {r : Nat} {s : ScriptD} {v : Value} {b o n cap : Nat} {A : List Bs} {M : List Nat} (h0 : Laid w0) (hb0 : Below w0.heap.size w0 w) (h : RAt w w0.heap.size r 2 s v) (hst : s.turns.length ≤ 4096) (hn : n = A.length + 1) (hc : ∀ i, i < n → w.cell? ⟨b, o + i, none⟩ = some (.string ⟨((wRows :: A)[i]?.getD []).toArray⟩)) (hcap : n ≤ cap)
    (hL : A.length ≤ 900000) (hs : ∀ i, i < A.length → (A[i]?.getD []).length ≤ 1000000) (hA : numsL A = some M) (hM : 0 < M.length) :
    Calls Tryz.prog 75 #[.pointer (some ⟨r, 0, none⟩), .slice (some ⟨b, o, none⟩) n cap] w (RPostV w w0.heap.size r 2 v (.error 5)) := by
  obtain ⟨pa, hs1, hs2, hsl⟩ := tail_run hc hn hcap
  have c0 : w.cell? ⟨b, o, none⟩ = some (.string ⟨#[114, 111, 119, 115]⟩) := hc 0 (by omega)
  have HSA := Lib.hid hs
  have HR0 := Lib.hid h
  have HB0 := Lib.hid hb0
  have HL0 := Lib.hid (h0.below hb0)
  have HLW := Lib.hid hL
  have HSL := Lib.hid hsl
  have HN := Lib.hid hn
  have HNA := Lib.hid hA
  have HST := Lib.hid hst
  have hpos : (1 : Int) ≤ (n : Int) := by omega
  clear hc hn hs h hb0 h0 hsl hA hL hst
  have i0 := kindsAt0
  have i1 := kindsAt1
  have i2 := kindsAt2
  have i3 := kindsAt3
  go_enter Tryz.func75, Tryz.ntmps75
  go_wp2_with fail
  refine (kinds_any _).mono ?_
  rintro e w1 ⟨rfl, hw1⟩
  have T0 : Hid (Turn Nn w w1) := by rw [hw1]; exact Lib.hid ((Turn.refl _ _).alloc _)
  clear hw1
  obtain ⟨q0, hq0⟩ : ∃ q, w1 = q := ⟨_, rfl⟩
  rw [hq0] at T0 ⊢
  clear hq0 w1
  go_wp2_with fail
  refine wp_loop_rounds 5 ?_
  rw [rounds_succ]
  go_wp2_with fail
  refine (numbers_skip (x := true) (HSL.out.turn (T0.out.alloc _)) (by have := HLW.out; omega) HSA.out (HL0.out.turn (T0.out.alloc _)) (by rw [HNA.out]; rfl)).mono ?_
  rintro e u0 ⟨v0, rfl, ht⟩
  obtain ⟨x0, x1, x2⟩ := kcell ht
  have d0 := cell_turn ((T0.out.alloc _).trans ht) c0
  have U0 := Lib.hid ((T0.out.alloc _).trans ht)
  clear ht x1 x2
  go_wp2_with fail
  go_quiet (fail)
  generalize hq : World.drewN u0 _ = q1
  have T1 : Hid (Turn Nn w q1) := by rw [← hq]; exact Lib.hid (U0.out.drewN _)
  clear hq x0 d0
  go_wp2_with fail
  rw [rounds_succ]
  go_wp2_with fail
  refine (numbers_skip (x := true) (HSL.out.turn (T1.out.alloc _)) (by have := HLW.out; omega) HSA.out (HL0.out.turn (T1.out.alloc _)) (by rw [HNA.out]; rfl)).mono ?_
  rintro e u1 ⟨v1, rfl, ht⟩
  obtain ⟨x0, x1, x2⟩ := kcell ht
  have d0 := cell_turn ((T1.out.alloc _).trans ht) c0
  have U1 := Lib.hid ((T1.out.alloc _).trans ht)
  clear ht x1 x2
  go_wp2_with fail
  go_quiet (fail)
  generalize hq : World.drewN u1 _ = q2
  have T2 : Hid (Turn Nn w q2) := by rw [← hq]; exact Lib.hid (U1.out.drewN _)
  clear hq x0 d0
  go_wp2_with fail
  rw [rounds_succ]
  go_wp2_with fail
  refine (numbers_skip (x := true) (HSL.out.turn (T2.out.alloc _)) (by have := HLW.out; omega) HSA.out (HL0.out.turn (T2.out.alloc _)) (by rw [HNA.out]; rfl)).mono ?_
  rintro e u2 ⟨v2, rfl, ht⟩
  obtain ⟨x0, x1, x2⟩ := kcell ht
  have d0 := cell_turn ((T2.out.alloc _).trans ht) c0
  have U2 := Lib.hid ((T2.out.alloc _).trans ht)
  clear ht x1 x2
  go_wp2_with fail
  go_quiet (fail)
  generalize hq : World.drewN u2 _ = q3
  have T3 : Hid (Turn Nn w q3) := by rw [← hq]; exact Lib.hid (U2.out.drewN _)
  clear hq x0 d0
  go_wp2_with fail
  rw [rounds_succ]
  go_wp2_with fail
  refine (numbers_some HNA.out (HSL.out.turn (T3.out.alloc _)) (by have := HLW.out; omega) HSA.out (HL0.out.turn (T3.out.alloc _))).mono ?_
  rintro e w2 ⟨pa2, cap2, rfl, hown, ht2⟩
  obtain ⟨x0, x1, x2⟩ := kcell ht2
  have d0 := cell_turn ((T3.out.alloc _).trans ht2) c0
  have T2a := Lib.hid ((T3.out.alloc _).trans ht2)
  have hM1 : (0 : Int) < (M.length : Int) := by omega
  clear hown
  have HM := Lib.hid hM
  clear hM
  clear ht2 c0
  go_wp2_with fail
  go_quiet (fail)
  generalize hw3 : World.drewN w2 _ = w3
  have t3 : Turn Nn w2 w3 := hw3 ▸ (Turn.refl Nn w2).drewN _
  have x1 := cell_turn t3 x1
  have x2 := cell_turn t3 x2
  clear x0
  have T3a := Lib.hid (T2a.out.trans t3)
  have hkl := World.block_lt_of_cell? w3 _ x1
  clear hw3 t3 d0
  go_wp2_with fail
  refine wp_loop_rounds 3 ?_
  rw [rounds_succ]
  go_wp2_with fail
  go_wp2_with fail
  rw [rounds_succ]
  go_wp2_with fail
  go_wp2_with fail
  rw [rounds_succ]
  generalize hw7 : World.alloc (World.alloc (World.alloc (World.alloc w3 _) _) _) _ = w7
  obtain ⟨b15, _, _, _, t7⟩ := alloc4 hw7
  have T7a := Lib.hid (T3a.out.trans t7)
  clear hw7 t7 x1 x2
  clear b15
  go_wp2_with fail
  go_ret
  exact RPostV.err rfl T7a.out.wide
end Go.Proofs.YtjnllclpdllceaaGreatDoor
