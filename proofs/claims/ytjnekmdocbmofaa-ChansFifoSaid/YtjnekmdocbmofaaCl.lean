/- The table's methods by what they make of the slots. -/
import Derived.Test.YtjnekmdocbmofaaCk
namespace Go.Proofs.Ytjnekmdocbmofaa
set_option linter.unusedSimpArgs false
set_option linter.unusedVariables false
open Go.RowKit Go.Shelf

def putT (cs : List (Option Ch)) (m : Nat) (e x : Int) : Int × List (Option Ch) := match sideOf cs e with
  | some (i, s, c) => if c.o s then (if (c.l s).length = m then (22, cs) else (0, cs.set i (some (c.setl s (c.l s ++ [x]))))) else (24, cs)
  | none => (24, cs)
def takeT (cs : List (Option Ch)) (e : Int) : Int × Int × List (Option Ch) := match sideOf cs e with
  | some (i, s, c) => if c.o s then (match c.l (!s) with
    | [] => (0, 23, cs)
    | x :: L => (x, 0, cs.set i (some (c.setl (!s) L)))) else (0, 24, cs)
  | none => (0, 24, cs)
def closeT (cs : List (Option Ch)) (e : Int) : Int × List (Option Ch) := match sideOf cs e with
  | some (i, s, c) => if c.o s then (if c.o (!s) then (0, cs.set i (some (c.shut s))) else (0, cs.set i none)) else (24, cs)
  | none => (24, cs)
def makeT (cs : List (Option Ch)) (b : Nat) : Int × Int × List (Option Ch) := match free cs with
  | some i => ((i : Int), 0, cs.set i (some ⟨b, true, true, [], []⟩))
  | none => (-1, 22, cs)

theorem chIn_own {w tb sb n m cs e i s c} (h : Side w tb sb n m cs e i s c) (k : Nat) (hk : ChIn c k) : TOwn sb cs k :=
  .inr ⟨c, List.mem_of_getElem? (sideOf_some h.of).2.1, hk.1, hk.2⟩

theorem open_none {cs e} (h : sideOf cs e = none) : openA cs e = false := by unfold openA; rw [h]
theorem open_some {cs e i s c} (h : sideOf cs e = some (i, s, c)) : openA cs e = c.o s := by unfold openA; rw [h]

theorem put_any {w : World} {tb sb n m cs} (h : TabIs w tb sb n m cs) {e x z : Int} {cs' : List (Option Ch)} (hz : putT cs m e x = (z, cs')) :
    Calls Try.prog 29 #[.pointer (some ⟨tb, 0, none⟩), .int .i64 e, .int .i64 x] w fun r w' => r = .returned (.int .i64 z) ∧ TabIs w' tb sb n m cs' ∧ Turn (TOwn sb cs) w w' := by
  unfold putT at hz
  cases hs : sideOf cs e with
  | none =>
    rw [hs] at hz
    simp only [Prod.mk.injEq] at hz
    obtain ⟨rfl, rfl⟩ := hz
    refine (put_stale h e x (open_none hs)).mono ?_
    rintro r w' ⟨rfl, t⟩
    exact ⟨rfl, h.turn' t, t.mono (fun _ h => h.elim)⟩
  | some y =>
    obtain ⟨i, s, c⟩ := y
    have hS : Side w tb sb n m cs e i s c := ⟨h, hs⟩
    rw [hs] at hz
    simp only at hz
    cases ho : c.o s with
    | false =>
      rw [ho] at hz
      simp only [Bool.false_eq_true, if_false, Prod.mk.injEq] at hz
      obtain ⟨rfl, rfl⟩ := hz
      refine (put_stale h e x ((open_some hs).trans ho)).mono ?_
      rintro r w' ⟨rfl, t⟩
      exact ⟨rfl, h.turn' t, t.mono (fun _ h => h.elim)⟩
    | true =>
      rw [ho] at hz
      simp only [if_true] at hz
      by_cases hl : (c.l s).length = m
      · rw [if_pos hl] at hz
        simp only [Prod.mk.injEq] at hz
        obtain ⟨rfl, rfl⟩ := hz
        refine (put_room x hS ho hl).mono ?_
        rintro r w' ⟨rfl, t⟩
        exact ⟨rfl, h.turn' t, t.mono (fun _ h => h.elim)⟩
      · rw [if_neg hl] at hz
        simp only [Prod.mk.injEq] at hz
        obtain ⟨rfl, rfl⟩ := hz
        refine (put_ok1 x hS ho (by have := hS.le s; omega)).mono ?_
        rintro r w' ⟨rfl, h2, t⟩
        exact ⟨rfl, h2, t.mono (chIn_own hS)⟩

theorem take_any {w : World} {tb sb n m cs} (h : TabIs w tb sb n m cs) {e x z : Int} {cs' : List (Option Ch)} (hz : takeT cs e = (x, z, cs')) :
    Calls Try.prog 31 #[.pointer (some ⟨tb, 0, none⟩), .int .i64 e] w fun r w' => r = .returned (.tuple #[.int .i64 x, .int .i64 z]) ∧ TabIs w' tb sb n m cs' ∧ Turn (TOwn sb cs) w w' := by
  unfold takeT at hz
  cases hs : sideOf cs e with
  | none =>
    rw [hs] at hz
    simp only [Prod.mk.injEq] at hz
    obtain ⟨rfl, rfl, rfl⟩ := hz
    refine (take_stale h e (open_none hs)).mono ?_
    rintro r w' ⟨rfl, t⟩
    exact ⟨rfl, h.turn' t, t.mono (fun _ h => h.elim)⟩
  | some y =>
    obtain ⟨i, s, c⟩ := y
    have hS : Side w tb sb n m cs e i s c := ⟨h, hs⟩
    rw [hs] at hz
    simp only at hz
    cases ho : c.o s with
    | false =>
      rw [ho] at hz
      simp only [Bool.false_eq_true, if_false, Prod.mk.injEq] at hz
      obtain ⟨rfl, rfl, rfl⟩ := hz
      refine (take_stale h e ((open_some hs).trans ho)).mono ?_
      rintro r w' ⟨rfl, t⟩
      exact ⟨rfl, h.turn' t, t.mono (fun _ h => h.elim)⟩
    | true =>
      rw [ho] at hz
      simp only [if_true] at hz
      cases hl : c.l (!s) with
      | nil =>
        rw [hl] at hz
        simp only [Prod.mk.injEq] at hz
        obtain ⟨rfl, rfl, rfl⟩ := hz
        refine (take_none hS ho hl).mono ?_
        rintro r w' ⟨rfl, t⟩
        exact ⟨rfl, h.turn' t, t.mono (fun _ h => h.elim)⟩
      | cons a L =>
        rw [hl] at hz
        simp only [Prod.mk.injEq] at hz
        obtain ⟨rfl, rfl, rfl⟩ := hz
        refine (take_ok1 hS ho hl).mono ?_
        rintro r w' ⟨rfl, h2, t⟩
        exact ⟨rfl, h2, t.mono (chIn_own hS)⟩

theorem close_any {w : World} {tb sb n m cs} (h : TabIs w tb sb n m cs) {e z : Int} {cs' : List (Option Ch)} (hz : closeT cs e = (z, cs')) :
    Calls Try.prog 26 #[.pointer (some ⟨tb, 0, none⟩), .int .i64 e] w fun r w' => r = .returned (.int .i64 z) ∧ TabIs w' tb sb n m cs' ∧ Turn (TOwn sb cs) w w' := by
  unfold closeT at hz
  cases hs : sideOf cs e with
  | none =>
    rw [hs] at hz
    simp only [Prod.mk.injEq] at hz
    obtain ⟨rfl, rfl⟩ := hz
    refine (close_stale h e (open_none hs)).mono ?_
    rintro r w' ⟨rfl, t⟩
    exact ⟨rfl, h.turn' t, t.mono (fun _ h => h.elim)⟩
  | some y =>
    obtain ⟨i, s, c⟩ := y
    have hS : Side w tb sb n m cs e i s c := ⟨h, hs⟩
    rw [hs] at hz
    simp only at hz
    cases ho : c.o s with
    | false =>
      rw [ho] at hz
      simp only [Bool.false_eq_true, if_false, Prod.mk.injEq] at hz
      obtain ⟨rfl, rfl⟩ := hz
      refine (close_stale h e ((open_some hs).trans ho)).mono ?_
      rintro r w' ⟨rfl, t⟩
      exact ⟨rfl, h.turn' t, t.mono (fun _ h => h.elim)⟩
    | true =>
      rw [ho] at hz
      simp only [if_true] at hz
      cases hl : c.o (!s) with
      | true =>
        rw [hl] at hz
        simp only [if_true, Prod.mk.injEq] at hz
        obtain ⟨rfl, rfl⟩ := hz
        refine (close_half hS ho hl).mono ?_
        rintro r w' ⟨rfl, h2, t⟩
        exact ⟨rfl, h2, t.mono (chIn_own hS)⟩
      | false =>
        rw [hl] at hz
        simp only [Bool.false_eq_true, if_false, Prod.mk.injEq] at hz
        obtain ⟨rfl, rfl⟩ := hz
        refine (close_last hS ho hl).mono ?_
        rintro r w' ⟨rfl, h2, t⟩
        exact ⟨rfl, h2, t.mono (fun k hk => hk.elim (chIn_own hS k) (fun h => .inl h))⟩

theorem free_lt {cs : List (Option Ch)} {i} (h : free cs = some i) : i < cs.length := by
  unfold free at h
  exact (List.findIdx?_eq_some_iff_getElem.1 h).1

theorem make_any {w : World} {tb sb n m cs} (h : TabIs w tb sb n m cs) {i z : Int} {cs' : List (Option Ch)} (hz : makeT cs w.heap.size = (i, z, cs')) :
    Calls Try.prog 25 #[.pointer (some ⟨tb, 0, none⟩)] w fun r w' => r = .returned (.tuple #[.int .i64 i, .int .i64 z]) ∧ TabIs w' tb sb n m cs' ∧ Turn (TOwn sb cs) w w' := by
  unfold makeT at hz
  cases hf : free cs with
  | none =>
    rw [hf] at hz
    simp only [Prod.mk.injEq] at hz
    obtain ⟨rfl, rfl, rfl⟩ := hz
    refine (make_full h hf).mono ?_
    rintro r w' ⟨rfl, rfl⟩
    exact ⟨rfl, h, Turn.refl _ _⟩
  | some j =>
    rw [hf] at hz
    simp only [Prod.mk.injEq] at hz
    obtain ⟨rfl, rfl, rfl⟩ := hz
    refine (make_ok h hf (by have := free_lt hf; have := h.len; omega)).mono ?_
    rintro r w' ⟨rfl, h2, t⟩
    exact ⟨rfl, h2, t.mono (fun k hk => .inl hk)⟩

theorem TOwn.ge {w tb sb n m cs k} (h : TabIs w tb sb n m cs) (hk : TOwn sb cs k) : sb ≤ k := by
  rcases hk with hk | ⟨c, hc, h1, h2⟩
  · omega
  · have := (h.ch c hc).2
    have := h.ts
    omega

theorem TabIs.lt {w tb sb n m cs} (h : TabIs w tb sb n m cs) : tb < w.heap.size := heap_lt h.tab

/-- The table's call leaves what stands below the table. -/
theorem below_turn_t {B : Nat} {a w w' : World} {tb sb n m cs} (h : Below B a w) (ht : TabIs w tb sb n m cs) (t : Turn (TOwn sb cs) w w') (hb : B ≤ sb) : Below B a w' :=
  Turn.below h t (fun k hk => Nat.le_trans hb (TOwn.ge ht hk)) (by have := ht.lt; have := ht.ts; omega)
end Go.Proofs.Ytjnekmdocbmofaa
