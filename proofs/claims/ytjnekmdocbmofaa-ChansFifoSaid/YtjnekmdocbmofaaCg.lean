/- ask: what hinders something at an end. -/
import Derived.Test.YtjnekmdocbmofaaCf
import Derived.Outline
namespace Go.Proofs.Ytjnekmdocbmofaa
set_option linter.unusedSimpArgs false
set_option linter.unusedVariables false
open Go.RowKit Go.Shelf

set_option maxRecDepth 100000 in
set_option maxHeartbeats 1000000 in
/-- No channel. -/
theorem ask_lost {w : World} {tb : Nat} {e : Int} {rs : Value}
    (hf : Calls Try.prog 58 #[.pointer (some ⟨tb, 0, none⟩), .int .i64 e] w fun r w' => r = .returned (.tuple #[.agg #[.pointer none, .int .i64 0], .bool false]) ∧ Turn Nn w w') :
    Calls Try.prog 46 #[.pointer (some ⟨tb, 0, none⟩), .int .i64 e, rs] w fun r w' => r = .returned (.int .i64 24) ∧ Turn Nn w w' := by
  have HF := Lib.hid hf
  clear hf
  go_enter Try.func46, Try.ntmps46
  go_wp2_with fail
  refine HF.out.mono ?_
  rintro r w1 ⟨rfl, t1⟩
  go_wp2_with fail
  go_quiet (fail)
  go_wp2_with fail
  go_ret
  exact ⟨rfl, (t1.alloc _).drewN _⟩

/-- The side's block, in a world. -/
def Open1 (p : Nat) (s b : Bool) (w : World) : Prop := ∀ S, ∀ w', Turn S w w' → ¬ S p → w'.cell? ⟨p, if s then 1 else 0, none⟩ = some (.bool b)

theorem ChIs.open1 {w m c} (h : ChIs w m c) (s : Bool) : Open1 (c.base + 2) s (c.o s) w := fun S w' t hs => by
  rw [cell_blk ((t.block _ (heap_lt h.1) hs).trans h.1)]
  cases s <;> rfl

set_option maxRecDepth 100000 in
set_option maxHeartbeats 1000000 in
/-- A side that is shut. -/
theorem ask_shut {w : World} {tb p : Nat} {s : Bool} {e : Int} {rs : Value} (ho : Open1 p s false w)
    (hf : Calls Try.prog 58 #[.pointer (some ⟨tb, 0, none⟩), .int .i64 e] w fun r w' => r = .returned (.tuple #[sideV p s, .bool true]) ∧ Turn Nn w w') :
    Calls Try.prog 46 #[.pointer (some ⟨tb, 0, none⟩), .int .i64 e, rs] w fun r w' => r = .returned (.int .i64 24) ∧ Turn Nn w w' := by
  have HF := Lib.hid hf
  have HO := Lib.hid ho
  clear hf ho
  cases s
  all_goals
    simp only [sideV, if_true, if_false, Bool.false_eq_true] at HF
    go_enter Try.func46, Try.ntmps46
    go_wp2_with fail
    refine HF.out.mono ?_
    rintro r w1 ⟨rfl, t1⟩
    have h1 : ∀ o, (w1.alloc o).cell? _ = _ := fun o => HO.out Nn _ (t1.alloc o) (fun h => h)
    simp only [if_true, if_false, Bool.false_eq_true] at h1
    go_wp2_with fail
    go_quiet (fail)
    go_wp2_with fail
    go_ret
    exact ⟨rfl, (t1.alloc _).drewN _⟩

/-- A cell that stays. -/
def Cell1 (b i : Nat) (v : Value) (w : World) : Prop := ∀ S, ∀ w', Turn S w w' → ¬ S b → w'.cell? ⟨b, i, none⟩ = some v

theorem Cell1.of {b i v w} (h : w.cell? ⟨b, i, none⟩ = some v) : Cell1 b i v w := fun S w' t hs =>
  (World.cell?_of_block (w := w) (a := ⟨b, i, none⟩) (t.block b (World.block_lt_of_cell? w ⟨b, i, none⟩ h) hs)).trans h

set_option maxRecDepth 100000 in
set_option maxHeartbeats 1000000 in
/-- No rules. -/
theorem ask_none {w : World} {tb p : Nat} {s : Bool} {e : Int} (ho : Open1 p s true w)
    (hf : Calls Try.prog 58 #[.pointer (some ⟨tb, 0, none⟩), .int .i64 e] w fun r w' => r = .returned (.tuple #[sideV p s, .bool true]) ∧ Turn Nn w w') :
    Calls Try.prog 46 #[.pointer (some ⟨tb, 0, none⟩), .int .i64 e, .slice none 0 0] w fun r w' => r = .returned (.int .i64 0) ∧ Turn Nn w w' := by
  have HF := Lib.hid hf
  have HO := Lib.hid ho
  clear hf ho
  cases s
  all_goals
    simp only [sideV, if_true, if_false, Bool.false_eq_true] at HF
    go_enter Try.func46, Try.ntmps46
    go_wp2_with fail
    refine HF.out.mono ?_
    rintro r w1 ⟨rfl, t1⟩
    have h1 : ∀ o, (w1.alloc o).cell? _ = _ := fun o => HO.out Nn _ (t1.alloc o) (fun h => h)
    simp only [if_true, if_false, Bool.false_eq_true] at h1
    go_wp2_with fail
    go_quiet (fail)
    go_wp2_with fail
    refine wp_loop_rounds 1 ?_
    rw [rounds_succ]
    go_wp2_with fail
    go_ret
    exact ⟨rfl, (t1.alloc _).drewN _⟩

set_option maxRecDepth 100000 in
set_option maxHeartbeats 1000000 in
/-- One rule (48), which hinders nothing. -/
theorem ask_one0_48 {w : World} {tb p rb : Nat} {s : Bool} {e : Int} (hr : Cell1 rb 0 (.func (.func 48) #[] #[]) w) (ho : Open1 p s true w)
    (hf : Calls Try.prog 58 #[.pointer (some ⟨tb, 0, none⟩), .int .i64 e] w fun r w' => r = .returned (.tuple #[sideV p s, .bool true]) ∧ Turn Nn w w')
    (hq : ∀ w1, Turn Nn w w1 → Calls Try.prog 48 #[sideV p s] w1 fun r w' => r = .returned (.int .i64 0) ∧ Turn Nn w1 w') :
    Calls Try.prog 46 #[.pointer (some ⟨tb, 0, none⟩), .int .i64 e, .slice (some ⟨rb, 0, none⟩) 1 1] w fun r w' => r = .returned (.int .i64 0) ∧ Turn Nn w w' := by
  have HF := Lib.hid hf
  have HO := Lib.hid ho
  have HR := Lib.hid hr
  have HQ := Lib.hid hq
  clear hf ho hr hq
  cases s
  all_goals
    simp only [sideV, if_true, if_false, Bool.false_eq_true] at HF HQ
    go_enter Try.func46, Try.ntmps46
    go_wp2_with fail
    refine HF.out.mono ?_
    rintro r w1 ⟨rfl, t1⟩
    have h1 : ∀ o, (w1.alloc o).cell? _ = _ := fun o => HO.out Nn _ (t1.alloc o) (fun h => h)
    simp only [if_true, if_false, Bool.false_eq_true] at h1
    have h2 : ∀ o k, ((w1.alloc o).drewN k).cell? _ = _ := fun o k => HR.out Nn _ ((t1.alloc o).drewN k) (fun h => h)
    go_wp2_with fail
    go_quiet (fail)
    go_wp2_with fail
    refine wp_loop_rounds 2 ?_
    rw [rounds_succ]
    go_wp2_with fail
    refine (HQ.out _ ((t1.alloc _).drewN _)).mono ?_
    rintro r w3 ⟨rfl, t3⟩
    have t4 : Turn Nn w w3 := ((t1.alloc _).drewN _).trans t3
    clear t1 t3 h1 h2
    go_wp2_with fail
    try (rw [rounds_succ]; go_wp2_with fail)
    go_ret
    exact ⟨rfl, t4⟩

set_option maxRecDepth 100000 in
set_option maxHeartbeats 1000000 in
/-- One rule (48), which hinders it. -/
theorem ask_one1_48 {w : World} {tb p rb : Nat} {s : Bool} {e : Int} (hr : Cell1 rb 0 (.func (.func 48) #[] #[]) w) (ho : Open1 p s true w)
    (hf : Calls Try.prog 58 #[.pointer (some ⟨tb, 0, none⟩), .int .i64 e] w fun r w' => r = .returned (.tuple #[sideV p s, .bool true]) ∧ Turn Nn w w')
    (hq : ∀ w1, Turn Nn w w1 → Calls Try.prog 48 #[sideV p s] w1 fun r w' => r = .returned (.int .i64 22) ∧ Turn Nn w1 w') :
    Calls Try.prog 46 #[.pointer (some ⟨tb, 0, none⟩), .int .i64 e, .slice (some ⟨rb, 0, none⟩) 1 1] w fun r w' => r = .returned (.int .i64 22) ∧ Turn Nn w w' := by
  have HF := Lib.hid hf
  have HO := Lib.hid ho
  have HR := Lib.hid hr
  have HQ := Lib.hid hq
  clear hf ho hr hq
  cases s
  all_goals
    simp only [sideV, if_true, if_false, Bool.false_eq_true] at HF HQ
    go_enter Try.func46, Try.ntmps46
    go_wp2_with fail
    refine HF.out.mono ?_
    rintro r w1 ⟨rfl, t1⟩
    have h1 : ∀ o, (w1.alloc o).cell? _ = _ := fun o => HO.out Nn _ (t1.alloc o) (fun h => h)
    simp only [if_true, if_false, Bool.false_eq_true] at h1
    have h2 : ∀ o k, ((w1.alloc o).drewN k).cell? _ = _ := fun o k => HR.out Nn _ ((t1.alloc o).drewN k) (fun h => h)
    go_wp2_with fail
    go_quiet (fail)
    go_wp2_with fail
    refine wp_loop_rounds 2 ?_
    rw [rounds_succ]
    go_wp2_with fail
    refine (HQ.out _ ((t1.alloc _).drewN _)).mono ?_
    rintro r w3 ⟨rfl, t3⟩
    have t4 : Turn Nn w w3 := ((t1.alloc _).drewN _).trans t3
    clear t1 t3 h1 h2
    go_wp2_with fail
    try (rw [rounds_succ]; go_wp2_with fail)
    go_ret
    exact ⟨rfl, t4⟩

set_option maxRecDepth 100000 in
set_option maxHeartbeats 1000000 in
/-- One rule (53), which hinders nothing. -/
theorem ask_one0_53 {w : World} {tb p rb : Nat} {s : Bool} {e : Int} (hr : Cell1 rb 0 (.func (.func 53) #[] #[]) w) (ho : Open1 p s true w)
    (hf : Calls Try.prog 58 #[.pointer (some ⟨tb, 0, none⟩), .int .i64 e] w fun r w' => r = .returned (.tuple #[sideV p s, .bool true]) ∧ Turn Nn w w')
    (hq : ∀ w1, Turn Nn w w1 → Calls Try.prog 53 #[sideV p s] w1 fun r w' => r = .returned (.int .i64 0) ∧ Turn Nn w1 w') :
    Calls Try.prog 46 #[.pointer (some ⟨tb, 0, none⟩), .int .i64 e, .slice (some ⟨rb, 0, none⟩) 1 1] w fun r w' => r = .returned (.int .i64 0) ∧ Turn Nn w w' := by
  have HF := Lib.hid hf
  have HO := Lib.hid ho
  have HR := Lib.hid hr
  have HQ := Lib.hid hq
  clear hf ho hr hq
  cases s
  all_goals
    simp only [sideV, if_true, if_false, Bool.false_eq_true] at HF HQ
    go_enter Try.func46, Try.ntmps46
    go_wp2_with fail
    refine HF.out.mono ?_
    rintro r w1 ⟨rfl, t1⟩
    have h1 : ∀ o, (w1.alloc o).cell? _ = _ := fun o => HO.out Nn _ (t1.alloc o) (fun h => h)
    simp only [if_true, if_false, Bool.false_eq_true] at h1
    have h2 : ∀ o k, ((w1.alloc o).drewN k).cell? _ = _ := fun o k => HR.out Nn _ ((t1.alloc o).drewN k) (fun h => h)
    go_wp2_with fail
    go_quiet (fail)
    go_wp2_with fail
    refine wp_loop_rounds 2 ?_
    rw [rounds_succ]
    go_wp2_with fail
    refine (HQ.out _ ((t1.alloc _).drewN _)).mono ?_
    rintro r w3 ⟨rfl, t3⟩
    have t4 : Turn Nn w w3 := ((t1.alloc _).drewN _).trans t3
    clear t1 t3 h1 h2
    go_wp2_with fail
    try (rw [rounds_succ]; go_wp2_with fail)
    go_ret
    exact ⟨rfl, t4⟩

set_option maxRecDepth 100000 in
set_option maxHeartbeats 1000000 in
/-- One rule (53), which hinders it. -/
theorem ask_one1_53 {w : World} {tb p rb : Nat} {s : Bool} {e : Int} (hr : Cell1 rb 0 (.func (.func 53) #[] #[]) w) (ho : Open1 p s true w)
    (hf : Calls Try.prog 58 #[.pointer (some ⟨tb, 0, none⟩), .int .i64 e] w fun r w' => r = .returned (.tuple #[sideV p s, .bool true]) ∧ Turn Nn w w')
    (hq : ∀ w1, Turn Nn w w1 → Calls Try.prog 53 #[sideV p s] w1 fun r w' => r = .returned (.int .i64 23) ∧ Turn Nn w1 w') :
    Calls Try.prog 46 #[.pointer (some ⟨tb, 0, none⟩), .int .i64 e, .slice (some ⟨rb, 0, none⟩) 1 1] w fun r w' => r = .returned (.int .i64 23) ∧ Turn Nn w w' := by
  have HF := Lib.hid hf
  have HO := Lib.hid ho
  have HR := Lib.hid hr
  have HQ := Lib.hid hq
  clear hf ho hr hq
  cases s
  all_goals
    simp only [sideV, if_true, if_false, Bool.false_eq_true] at HF HQ
    go_enter Try.func46, Try.ntmps46
    go_wp2_with fail
    refine HF.out.mono ?_
    rintro r w1 ⟨rfl, t1⟩
    have h1 : ∀ o, (w1.alloc o).cell? _ = _ := fun o => HO.out Nn _ (t1.alloc o) (fun h => h)
    simp only [if_true, if_false, Bool.false_eq_true] at h1
    have h2 : ∀ o k, ((w1.alloc o).drewN k).cell? _ = _ := fun o k => HR.out Nn _ ((t1.alloc o).drewN k) (fun h => h)
    go_wp2_with fail
    go_quiet (fail)
    go_wp2_with fail
    refine wp_loop_rounds 2 ?_
    rw [rounds_succ]
    go_wp2_with fail
    refine (HQ.out _ ((t1.alloc _).drewN _)).mono ?_
    rintro r w3 ⟨rfl, t3⟩
    have t4 : Turn Nn w w3 := ((t1.alloc _).drewN _).trans t3
    clear t1 t3 h1 h2
    go_wp2_with fail
    try (rw [rounds_succ]; go_wp2_with fail)
    go_ret
    exact ⟨rfl, t4⟩

end Go.Proofs.Ytjnekmdocbmofaa
