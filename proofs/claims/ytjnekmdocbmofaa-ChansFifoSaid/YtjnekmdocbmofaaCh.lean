/- ask with two rules, and Close's. -/
import Derived.Test.YtjnekmdocbmofaaCg
import Derived.Outline
namespace Go.Proofs.Ytjnekmdocbmofaa
set_option linter.unusedSimpArgs false
set_option linter.unusedVariables false
open Go.RowKit Go.Shelf

theorem alloc_cell0 (w : World) (a b : Value) (t : TypeId) (k : Nat) : ((w.alloc (.cells #[a, b] t)).drewN k).cell? ⟨w.heap.size, 0, none⟩ = some a := by
  show (w.alloc _).cell? _ = _
  rw [cell_blk (World.alloc_heap_new w _)]; rfl
theorem alloc_cell1 (w : World) (a b : Value) (t : TypeId) (k : Nat) : ((w.alloc (.cells #[a, b] t)).drewN k).cell? ⟨w.heap.size, 1, none⟩ = some b := by
  show (w.alloc _).cell? _ = _
  rw [cell_blk (World.alloc_heap_new w _)]; rfl

set_option maxRecDepth 100000 in
set_option maxHeartbeats 1000000 in
/-- The first of two rules (48) hinders it. -/
theorem ask_two1_48 {w : World} {tb p rb vb : Nat} {s : Bool} {e : Int} (hr : Cell1 rb 0 (.func (.func 48) #[] #[]) w) (ho : Open1 p s true w)
    (hf : Calls Try.prog 58 #[.pointer (some ⟨tb, 0, none⟩), .int .i64 e] w fun r w' => r = .returned (.tuple #[sideV p s, .bool true]) ∧ Turn Nn w w')
    (hq : ∀ w1, Turn Nn w w1 → Calls Try.prog 48 #[sideV p s] w1 fun r w' => r = .returned (.int .i64 22) ∧ Turn Nn w1 w')
    :
    Calls Try.prog 46 #[.pointer (some ⟨tb, 0, none⟩), .int .i64 e, .slice (some ⟨rb, 0, none⟩) 2 2] w fun r w' => r = .returned (.int .i64 22) ∧ Turn Nn w w' := by
  have HF := Lib.hid hf
  have HO := Lib.hid ho
  have HR := Lib.hid hr
  have HQ := Lib.hid hq
  
  clear hf ho hr hq
  cases s
  all_goals
    simp only [sideV, if_true, if_false, Bool.false_eq_true] at HF HQ
    go_enter Try.func46, Try.ntmps46
    go_wp2_with fail
    refine HF.out.mono ?_
    rintro r w1 ⟨rfl, t1⟩
    have h1 : ∀ o, (w1.alloc o).cell? _ = _ := fun o => HO.out Nn _ (t1.alloc o) (fun h => h)
    simp only [if_true, if_false, Bool.false_eq_true] at h1
    have h2 : ∀ o k, ((w1.alloc o).drewN k).cell? _ = _ := fun o k => HR.out Nn _ ((t1.alloc o).drewN k) (fun h => h)
    go_wp2_with fail
    go_quiet (fail)
    go_wp2_with fail
    refine wp_loop_rounds 3 ?_
    rw [rounds_succ]
    go_wp2_with fail
    refine (HQ.out _ ((t1.alloc _).drewN _)).mono ?_
    rintro r w3 ⟨rfl, t3⟩
    have t4 : Turn Nn w w3 := ((t1.alloc _).drewN _).trans t3
    clear t1 t3 h1 h2
    go_wp2_with fail
    go_ret
    exact ⟨rfl, t4⟩

set_option maxRecDepth 100000 in
set_option maxHeartbeats 1000000 in
/-- The first of two rules (53) hinders it. -/
theorem ask_two1_53 {w : World} {tb p rb vb : Nat} {s : Bool} {e : Int} (hr : Cell1 rb 0 (.func (.func 53) #[] #[]) w) (ho : Open1 p s true w)
    (hf : Calls Try.prog 58 #[.pointer (some ⟨tb, 0, none⟩), .int .i64 e] w fun r w' => r = .returned (.tuple #[sideV p s, .bool true]) ∧ Turn Nn w w')
    (hq : ∀ w1, Turn Nn w w1 → Calls Try.prog 53 #[sideV p s] w1 fun r w' => r = .returned (.int .i64 23) ∧ Turn Nn w1 w')
    :
    Calls Try.prog 46 #[.pointer (some ⟨tb, 0, none⟩), .int .i64 e, .slice (some ⟨rb, 0, none⟩) 2 2] w fun r w' => r = .returned (.int .i64 23) ∧ Turn Nn w w' := by
  have HF := Lib.hid hf
  have HO := Lib.hid ho
  have HR := Lib.hid hr
  have HQ := Lib.hid hq
  
  clear hf ho hr hq
  cases s
  all_goals
    simp only [sideV, if_true, if_false, Bool.false_eq_true] at HF HQ
    go_enter Try.func46, Try.ntmps46
    go_wp2_with fail
    refine HF.out.mono ?_
    rintro r w1 ⟨rfl, t1⟩
    have h1 : ∀ o, (w1.alloc o).cell? _ = _ := fun o => HO.out Nn _ (t1.alloc o) (fun h => h)
    simp only [if_true, if_false, Bool.false_eq_true] at h1
    have h2 : ∀ o k, ((w1.alloc o).drewN k).cell? _ = _ := fun o k => HR.out Nn _ ((t1.alloc o).drewN k) (fun h => h)
    go_wp2_with fail
    go_quiet (fail)
    go_wp2_with fail
    refine wp_loop_rounds 3 ?_
    rw [rounds_succ]
    go_wp2_with fail
    refine (HQ.out _ ((t1.alloc _).drewN _)).mono ?_
    rintro r w3 ⟨rfl, t3⟩
    have t4 : Turn Nn w w3 := ((t1.alloc _).drewN _).trans t3
    clear t1 t3 h1 h2
    go_wp2_with fail
    go_ret
    exact ⟨rfl, t4⟩

set_option maxRecDepth 100000 in
set_option maxHeartbeats 1000000 in
/-- Neither rule (48, 49) hinders it. -/
theorem ask_two0_48 {w : World} {tb p rb vb : Nat} {s : Bool} {e : Int} {R : World → Prop} (hr2 : Cell1 rb 1 (.func (.func 49) #[] #[.pointer (some ⟨vb, 0, none⟩)]) w) (hr : Cell1 rb 0 (.func (.func 48) #[] #[]) w) (ho : Open1 p s true w)
    (hf : Calls Try.prog 58 #[.pointer (some ⟨tb, 0, none⟩), .int .i64 e] w fun r w' => r = .returned (.tuple #[sideV p s, .bool true]) ∧ Turn Nn w w')
    (hq : ∀ w1, Turn Nn w w1 → Calls Try.prog 48 #[sideV p s] w1 fun r w' => r = .returned (.int .i64 0) ∧ Turn Nn w1 w')
    (hq2 : ∀ w1, Turn Nn w w1 → Calls Try.prog 49 #[sideV p s, .pointer (some ⟨vb, 0, none⟩)] w1 fun r w' => r = .returned (.int .i64 0) ∧ R w') :
    Calls Try.prog 46 #[.pointer (some ⟨tb, 0, none⟩), .int .i64 e, .slice (some ⟨rb, 0, none⟩) 2 2] w fun r w' => r = .returned (.int .i64 0) ∧ R w' := by
  have HF := Lib.hid hf
  have HO := Lib.hid ho
  have HR := Lib.hid hr
  have HQ := Lib.hid hq
  have HR2 := Lib.hid hr2
  have HQ2 := Lib.hid hq2
  clear hr2 hq2
  clear hf ho hr hq
  cases s
  · simp only [sideV, if_true, if_false, Bool.false_eq_true] at HF HQ HQ2
    go_enter Try.func46, Try.ntmps46
    go_wp2_with fail
    refine HF.out.mono ?_
    rintro r w1 ⟨rfl, t1⟩
    have h1 : ∀ o, (w1.alloc o).cell? _ = _ := fun o => HO.out Nn _ (t1.alloc o) (fun h => h)
    simp only [if_true, if_false, Bool.false_eq_true] at h1
    have h2 : ∀ o k, ((w1.alloc o).drewN k).cell? _ = _ := fun o k => HR.out Nn _ ((t1.alloc o).drewN k) (fun h => h)
    go_wp2_with fail
    go_quiet (fail)
    go_wp2_with fail
    refine wp_loop_rounds 3 ?_
    rw [rounds_succ]
    go_wp2_with fail
    refine (HQ.out _ ((t1.alloc _).drewN _)).mono ?_
    rintro r w3 ⟨rfl, t3⟩
    have t4 : Turn Nn w w3 := ((t1.alloc _).drewN _).trans t3
    have g0 : w3.cell? ⟨w1.heap.size, 0, none⟩ = some (.pointer (some ⟨p, 0, none⟩)) := Cell1.of (alloc_cell0 w1 _ _ _ _) Nn _ t3 (fun h => h)
    have g1 : w3.cell? ⟨w1.heap.size, 1, none⟩ = some (.int .i64 0) := Cell1.of (alloc_cell1 w1 _ _ _ _) Nn _ t3 (fun h => h)
    have g2 := HR2.out Nn _ t4 (fun h => h)
    clear t1 t3 h1 h2
    go_wp2_with fail
    rw [rounds_succ]
    go_wp2_with fail
    refine (HQ2.out _ t4).mono ?_
    rintro r w5 ⟨rfl, hR⟩
    clear g0 g1 g2 t4
    have HRR := Lib.hid hR
    clear hR
    go_wp2_with fail
    rw [rounds_succ]
    go_wp2_with fail
    go_ret
    exact ⟨rfl, HRR.out⟩
  · simp only [sideV, if_true, if_false, Bool.false_eq_true] at HF HQ HQ2
    go_enter Try.func46, Try.ntmps46
    go_wp2_with fail
    refine HF.out.mono ?_
    rintro r w1 ⟨rfl, t1⟩
    have h1 : ∀ o, (w1.alloc o).cell? _ = _ := fun o => HO.out Nn _ (t1.alloc o) (fun h => h)
    simp only [if_true, if_false, Bool.false_eq_true] at h1
    have h2 : ∀ o k, ((w1.alloc o).drewN k).cell? _ = _ := fun o k => HR.out Nn _ ((t1.alloc o).drewN k) (fun h => h)
    go_wp2_with fail
    go_quiet (fail)
    go_wp2_with fail
    refine wp_loop_rounds 3 ?_
    rw [rounds_succ]
    go_wp2_with fail
    refine (HQ.out _ ((t1.alloc _).drewN _)).mono ?_
    rintro r w3 ⟨rfl, t3⟩
    have t4 : Turn Nn w w3 := ((t1.alloc _).drewN _).trans t3
    have g0 : w3.cell? ⟨w1.heap.size, 0, none⟩ = some (.pointer (some ⟨p, 0, none⟩)) := Cell1.of (alloc_cell0 w1 _ _ _ _) Nn _ t3 (fun h => h)
    have g1 : w3.cell? ⟨w1.heap.size, 1, none⟩ = some (.int .i64 1) := Cell1.of (alloc_cell1 w1 _ _ _ _) Nn _ t3 (fun h => h)
    have g2 := HR2.out Nn _ t4 (fun h => h)
    clear t1 t3 h1 h2
    go_wp2_with fail
    rw [rounds_succ]
    go_wp2_with fail
    refine (HQ2.out _ t4).mono ?_
    rintro r w5 ⟨rfl, hR⟩
    clear g0 g1 g2 t4
    have HRR := Lib.hid hR
    clear hR
    go_wp2_with fail
    rw [rounds_succ]
    go_wp2_with fail
    go_ret
    exact ⟨rfl, HRR.out⟩

set_option maxRecDepth 100000 in
set_option maxHeartbeats 1000000 in
/-- Neither rule (53, 54) hinders it. -/
theorem ask_two0_53 {w : World} {tb p rb vb : Nat} {s : Bool} {e : Int} {R : World → Prop} (hr2 : Cell1 rb 1 (.func (.func 54) #[] #[.pointer (some ⟨vb, 0, none⟩)]) w) (hr : Cell1 rb 0 (.func (.func 53) #[] #[]) w) (ho : Open1 p s true w)
    (hf : Calls Try.prog 58 #[.pointer (some ⟨tb, 0, none⟩), .int .i64 e] w fun r w' => r = .returned (.tuple #[sideV p s, .bool true]) ∧ Turn Nn w w')
    (hq : ∀ w1, Turn Nn w w1 → Calls Try.prog 53 #[sideV p s] w1 fun r w' => r = .returned (.int .i64 0) ∧ Turn Nn w1 w')
    (hq2 : ∀ w1, Turn Nn w w1 → Calls Try.prog 54 #[sideV p s, .pointer (some ⟨vb, 0, none⟩)] w1 fun r w' => r = .returned (.int .i64 0) ∧ R w') :
    Calls Try.prog 46 #[.pointer (some ⟨tb, 0, none⟩), .int .i64 e, .slice (some ⟨rb, 0, none⟩) 2 2] w fun r w' => r = .returned (.int .i64 0) ∧ R w' := by
  have HF := Lib.hid hf
  have HO := Lib.hid ho
  have HR := Lib.hid hr
  have HQ := Lib.hid hq
  have HR2 := Lib.hid hr2
  have HQ2 := Lib.hid hq2
  clear hr2 hq2
  clear hf ho hr hq
  cases s
  · simp only [sideV, if_true, if_false, Bool.false_eq_true] at HF HQ HQ2
    go_enter Try.func46, Try.ntmps46
    go_wp2_with fail
    refine HF.out.mono ?_
    rintro r w1 ⟨rfl, t1⟩
    have h1 : ∀ o, (w1.alloc o).cell? _ = _ := fun o => HO.out Nn _ (t1.alloc o) (fun h => h)
    simp only [if_true, if_false, Bool.false_eq_true] at h1
    have h2 : ∀ o k, ((w1.alloc o).drewN k).cell? _ = _ := fun o k => HR.out Nn _ ((t1.alloc o).drewN k) (fun h => h)
    go_wp2_with fail
    go_quiet (fail)
    go_wp2_with fail
    refine wp_loop_rounds 3 ?_
    rw [rounds_succ]
    go_wp2_with fail
    refine (HQ.out _ ((t1.alloc _).drewN _)).mono ?_
    rintro r w3 ⟨rfl, t3⟩
    have t4 : Turn Nn w w3 := ((t1.alloc _).drewN _).trans t3
    have g0 : w3.cell? ⟨w1.heap.size, 0, none⟩ = some (.pointer (some ⟨p, 0, none⟩)) := Cell1.of (alloc_cell0 w1 _ _ _ _) Nn _ t3 (fun h => h)
    have g1 : w3.cell? ⟨w1.heap.size, 1, none⟩ = some (.int .i64 0) := Cell1.of (alloc_cell1 w1 _ _ _ _) Nn _ t3 (fun h => h)
    have g2 := HR2.out Nn _ t4 (fun h => h)
    clear t1 t3 h1 h2
    go_wp2_with fail
    rw [rounds_succ]
    go_wp2_with fail
    refine (HQ2.out _ t4).mono ?_
    rintro r w5 ⟨rfl, hR⟩
    clear g0 g1 g2 t4
    have HRR := Lib.hid hR
    clear hR
    go_wp2_with fail
    rw [rounds_succ]
    go_wp2_with fail
    go_ret
    exact ⟨rfl, HRR.out⟩
  · simp only [sideV, if_true, if_false, Bool.false_eq_true] at HF HQ HQ2
    go_enter Try.func46, Try.ntmps46
    go_wp2_with fail
    refine HF.out.mono ?_
    rintro r w1 ⟨rfl, t1⟩
    have h1 : ∀ o, (w1.alloc o).cell? _ = _ := fun o => HO.out Nn _ (t1.alloc o) (fun h => h)
    simp only [if_true, if_false, Bool.false_eq_true] at h1
    have h2 : ∀ o k, ((w1.alloc o).drewN k).cell? _ = _ := fun o k => HR.out Nn _ ((t1.alloc o).drewN k) (fun h => h)
    go_wp2_with fail
    go_quiet (fail)
    go_wp2_with fail
    refine wp_loop_rounds 3 ?_
    rw [rounds_succ]
    go_wp2_with fail
    refine (HQ.out _ ((t1.alloc _).drewN _)).mono ?_
    rintro r w3 ⟨rfl, t3⟩
    have t4 : Turn Nn w w3 := ((t1.alloc _).drewN _).trans t3
    have g0 : w3.cell? ⟨w1.heap.size, 0, none⟩ = some (.pointer (some ⟨p, 0, none⟩)) := Cell1.of (alloc_cell0 w1 _ _ _ _) Nn _ t3 (fun h => h)
    have g1 : w3.cell? ⟨w1.heap.size, 1, none⟩ = some (.int .i64 1) := Cell1.of (alloc_cell1 w1 _ _ _ _) Nn _ t3 (fun h => h)
    have g2 := HR2.out Nn _ t4 (fun h => h)
    clear t1 t3 h1 h2
    go_wp2_with fail
    rw [rounds_succ]
    go_wp2_with fail
    refine (HQ2.out _ t4).mono ?_
    rintro r w5 ⟨rfl, hR⟩
    clear g0 g1 g2 t4
    have HRR := Lib.hid hR
    clear hR
    go_wp2_with fail
    rw [rounds_succ]
    go_wp2_with fail
    go_ret
    exact ⟨rfl, HRR.out⟩

set_option maxRecDepth 100000 in
set_option maxHeartbeats 1000000 in
/-- Close's rule, which hinders nothing. -/
theorem ask_close {w : World} {tb p rb xb yb : Nat} {s : Bool} {e : Int} {R : World → Prop} (hr : Cell1 rb 0 (.func (.func 47) #[] #[.pointer (some ⟨xb, 0, none⟩), .pointer (some ⟨yb, 0, none⟩)]) w) (ho : Open1 p s true w)
    (hf : Calls Try.prog 58 #[.pointer (some ⟨tb, 0, none⟩), .int .i64 e] w fun r w' => r = .returned (.tuple #[sideV p s, .bool true]) ∧ Turn Nn w w')
    (hq : ∀ w1, Turn Nn w w1 → Calls Try.prog 47 #[sideV p s, .pointer (some ⟨xb, 0, none⟩), .pointer (some ⟨yb, 0, none⟩)] w1 fun r w' => r = .returned (.int .i64 0) ∧ R w') :
    Calls Try.prog 46 #[.pointer (some ⟨tb, 0, none⟩), .int .i64 e, .slice (some ⟨rb, 0, none⟩) 1 1] w fun r w' => r = .returned (.int .i64 0) ∧ R w' := by
  have HF := Lib.hid hf
  have HO := Lib.hid ho
  have HR := Lib.hid hr
  have HQ := Lib.hid hq
  clear hf ho hr hq
  cases s
  all_goals
    simp only [sideV, if_true, if_false, Bool.false_eq_true] at HF HQ
    go_enter Try.func46, Try.ntmps46
    go_wp2_with fail
    refine HF.out.mono ?_
    rintro r w1 ⟨rfl, t1⟩
    have h1 : ∀ o, (w1.alloc o).cell? _ = _ := fun o => HO.out Nn _ (t1.alloc o) (fun h => h)
    simp only [if_true, if_false, Bool.false_eq_true] at h1
    have h2 : ∀ o k, ((w1.alloc o).drewN k).cell? _ = _ := fun o k => HR.out Nn _ ((t1.alloc o).drewN k) (fun h => h)
    go_wp2_with fail
    go_quiet (fail)
    go_wp2_with fail
    refine wp_loop_rounds 2 ?_
    rw [rounds_succ]
    go_wp2_with fail
    refine (HQ.out _ ((t1.alloc _).drewN _)).mono ?_
    rintro r w3 ⟨rfl, hR⟩
    have HRR := Lib.hid hR
    clear t1 h1 h2 hR
    go_wp2_with fail
    rw [rounds_succ]
    go_wp2_with fail
    go_ret
    exact ⟨rfl, HRR.out⟩

end Go.Proofs.Ytjnekmdocbmofaa
