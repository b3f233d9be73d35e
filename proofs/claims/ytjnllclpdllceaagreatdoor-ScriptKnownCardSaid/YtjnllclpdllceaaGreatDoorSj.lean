/- The reader's turns: what its rounds lean on. -/
import Derived.Test.YtjnllclpdllceaaGreatDoorSi
import Derived.Test.YtjnllclpdllceaaGreatDoorHa
import Derived.RangeFuncRecord
namespace Go.Proofs.YtjnllclpdllceaaGreatDoor
set_option linter.unusedSimpArgs false
set_option linter.unusedVariables false
open Go.RowKit Go.Shelf

theorem elem91 : Tryz.prog.underlying 91 = some (.slice (Tryz.prog.elem 91)) := by kernel_rfl
theorem elem104 : Tryz.prog.underlying 104 = some (.slice (Tryz.prog.elem 104)) := by kernel_rfl
theorem size91 (w : World) : (sizeOf (Tryz.prog.elem 91)).run Tryz.prog w = .ok 1 w := by kernel_rfl
theorem size104 (w : World) : (sizeOf (Tryz.prog.elem 104)).run Tryz.prog w = .ok 1 w := by kernel_rfl

theorem kindsAt0 : ∀ w, (Instr.index 74 (.agg kindsC) (.int .i64 0)).run Tryz.prog w = .ok (.agg #[.string ⟨#[112, 105, 99, 107]⟩, .bool true, .bool true]) w := fun w => by kernel_rfl
theorem kindsAt1 : ∀ w, (Instr.index 74 (.agg kindsC) (.int .i64 1)).run Tryz.prog w = .ok (.agg #[.string ⟨#[114, 111, 117, 110, 100]⟩, .bool false, .bool true]) w := fun w => by kernel_rfl
theorem kindsAt2 : ∀ w, (Instr.index 74 (.agg kindsC) (.int .i64 2)).run Tryz.prog w = .ok (.agg #[.string ⟨#[115, 104, 111, 119]⟩, .bool false, .bool false]) w := fun w => by kernel_rfl
theorem kindsAt3 : ∀ w, (Instr.index 74 (.agg kindsC) (.int .i64 3)).run Tryz.prog w = .ok (.agg #[.string ⟨#[114, 111, 119, 115]⟩, .bool false, .bool false]) w := fun w => by kernel_rfl

theorem tail_run {w : World} {b o n cap : Nat} {k : Bs} {A : List Bs} (hc : ∀ i, i < n → w.cell? ⟨b, o + i, none⟩ = some (.string ⟨((k :: A)[i]?.getD []).toArray⟩)) (hn : n = A.length + 1) (hcap : n ≤ cap) :
    ∃ pa, (∀ w, (Instr.slice 91 (.slice (some ⟨b, o, none⟩) n cap) (some (.int .i64 1)) none none).run Tryz.prog w = .ok (.slice pa (n - 1) (cap - 1)) w) ∧ (∀ w, (Instr.sliceAt 91 (.slice (some ⟨b, o, none⟩) n cap) (some (.int .i64 1)) none none).run Tryz.prog w = .ok (.slice pa (n - 1) (cap - 1)) w) ∧ StrSl w (.slice pa (n - 1) (cap - 1)) A := by
  have key : ∃ pa, (∀ w, (Instr.slice 91 (.slice (some ⟨b, o, none⟩) n cap) (some (.int .i64 1)) none none).run Tryz.prog w = .ok (.slice pa (n - 1) (cap - 1)) w) ∧ StrSl w (.slice pa (n - 1) (cap - 1)) A := by
    by_cases h1 : cap = 1
    · refine ⟨some ⟨b, o, none⟩, fun w => ?_, .inl ⟨List.eq_nil_of_length_eq_zero (by omega), some ⟨b, o, none⟩, cap - 1, by rw [show n - 1 = 0 by omega]⟩⟩
      rw [run_slice_l (P := Tryz.prog) (w := w) (t := 91) (a := some ⟨b, o, none⟩) (len := n) (cap := cap) elem91 .i64 1 (by omega) (by omega), size91]
      simp [sliced, h1, Result.andThen]
    · refine ⟨some ⟨b, o + 1, none⟩, fun w => ?_, StrSl.tail hc hn hcap⟩
      rw [run_slice_l (P := Tryz.prog) (w := w) (t := 91) (a := some ⟨b, o, none⟩) (len := n) (cap := cap) elem91 .i64 1 (by omega) (by omega), size91]
      simp [sliced, h1, Result.andThen, Addr.add]
  obtain ⟨pa, h1, h2⟩ := key
  exact ⟨pa, h1, fun w => (run_sliceAt_slice (P := Tryz.prog) (w := w) (t := 91) _ _ _ _ elem91).trans (h1 w), h2⟩

theorem tail104 (g o n m cap : Nat) (hn : n = m + 1) : ∃ pa, (∀ w, (Instr.slice 104 (.slice (some ⟨g, o, none⟩) n cap) (some (.int .i64 1)) none none).run Tryz.prog w = .ok (.slice pa m (cap - 1)) w) ∧ (∀ w, (Instr.sliceAt 104 (.slice (some ⟨g, o, none⟩) n cap) (some (.int .i64 1)) none none).run Tryz.prog w = .ok (.slice pa m (cap - 1)) w) ∧ (1 < cap → pa = some ⟨g, o + 1, none⟩) := by
  subst hn
  have key : ∃ pa, (∀ w, (Instr.slice 104 (.slice (some ⟨g, o, none⟩) (m + 1) cap) (some (.int .i64 1)) none none).run Tryz.prog w = .ok (.slice pa m (cap - 1)) w) ∧ (1 < cap → pa = some ⟨g, o + 1, none⟩) := by
    by_cases h1 : cap = 1
    · refine ⟨some ⟨g, o, none⟩, fun w => ?_, fun h => by omega⟩
      rw [run_slice_l (P := Tryz.prog) (w := w) (t := 104) (a := some ⟨g, o, none⟩) (len := m + 1) (cap := cap) elem104 .i64 1 (by omega) (by omega), size104]
      simp [sliced, h1, Result.andThen]
    · refine ⟨some ⟨g, o + 1, none⟩, fun w => ?_, fun h => rfl⟩
      rw [run_slice_l (P := Tryz.prog) (w := w) (t := 104) (a := some ⟨g, o, none⟩) (len := m + 1) (cap := cap) elem104 .i64 1 (by omega) (by omega), size104]
      simp [sliced, h1, Result.andThen, Addr.add]
  obtain ⟨pa, h1, h2⟩ := key
  exact ⟨pa, h1, fun w => (run_sliceAt_slice (P := Tryz.prog) (w := w) (t := 104) _ _ _ _ elem104).trans (h1 w), h2⟩

theorem ownI {w : World} {B : Nat} {pa : Option Addr} {cap : Nat} {N : List Nat} (h : w.ownsRow B 3 1 (.slice pa N.length cap) N.length (N.map natV)) (hN : N ≠ []) :
    ∃ g, B ≤ g ∧ pa = some ⟨g, 0, none⟩ ∧ N.length ≤ cap ∧ ∀ i, i < N.length → w.cell? ⟨g, i, none⟩ = some (.int .i64 (N[i]?.getD 0 : Nat)) := by
  rcases h.2 with ⟨hv, h0⟩ | ⟨g, cap', cur, hv, hb, hg, hn, _, hsz, ht⟩
  · exact absurd (List.eq_nil_of_length_eq_zero h0) hN
  · simp only [Value.slice.injEq] at hv
    obtain ⟨rfl, _, rfl⟩ := hv
    refine ⟨g, hb, rfl, hn, fun i hi => ?_⟩
    have h9 := congrArg (fun l => l[i]?) ht
    simp only [List.getElem?_take, Nat.mul_one, hi, if_true, Array.getElem?_toList] at h9
    rw [cell_blk hg, h9]
    simp [natV, hi]

theorem alloc1 {w w' : World} {a : Obj} (h : w.alloc a = w') : w'.heap[w.heap.size]? = some a ∧ Turn Nn w w' := by
  subst h
  exact ⟨World.alloc_heap_new w a, (Turn.refl _ _).alloc _⟩
theorem alloc2 {w w' : World} {a b : Obj} (h : (w.alloc a).alloc b = w') : w'.heap[w.heap.size]? = some a ∧ w'.heap[w.heap.size + 1]? = some b ∧ Turn Nn w w' := by
  subst h
  have e1 := World.alloc_heap_new w a
  have e2 := World.alloc_heap_new (w.alloc a) b
  rw [World.size_alloc] at e2
  exact ⟨(Below.heap_alloc _ _ _ (heap_lt e1)).trans e1, e2, ((Turn.refl _ _).alloc _).alloc _⟩
theorem alloc3 {w w' : World} {a b c : Obj} (h : ((w.alloc a).alloc b).alloc c = w') : w'.heap[w.heap.size]? = some a ∧ w'.heap[w.heap.size + 1]? = some b ∧ w'.heap[w.heap.size + 1 + 1]? = some c ∧ Turn Nn w w' := by
  subst h
  obtain ⟨h1, h2, h3⟩ := alloc2 (w := w) (a := a) (b := b) rfl
  have e3 := World.alloc_heap_new ((w.alloc a).alloc b) c
  rw [World.size_alloc, World.size_alloc] at e3
  exact ⟨(Below.heap_alloc _ _ _ (heap_lt h1)).trans h1, (Below.heap_alloc _ _ _ (heap_lt h2)).trans h2, e3, h3.alloc _⟩
theorem alloc4 {w w' : World} {a b c d : Obj} (h : (((w.alloc a).alloc b).alloc c).alloc d = w') : w'.heap[w.heap.size]? = some a ∧ w'.heap[w.heap.size + 1]? = some b ∧ w'.heap[w.heap.size + 1 + 1]? = some c ∧ w'.heap[w.heap.size + 1 + 1 + 1]? = some d ∧ Turn Nn w w' := by
  subst h
  obtain ⟨h1, h2, h3, h4⟩ := alloc3 (w := w) (a := a) (b := b) (c := c) rfl
  have e4 := World.alloc_heap_new (((w.alloc a).alloc b).alloc c) d
  rw [World.size_alloc, World.size_alloc, World.size_alloc] at e4
  exact ⟨(Below.heap_alloc _ _ _ (heap_lt h1)).trans h1, (Below.heap_alloc _ _ _ (heap_lt h2)).trans h2, (Below.heap_alloc _ _ _ (heap_lt h3)).trans h3, e4, h4.alloc _⟩

theorem setd {w w' : World} {b o : Nat} {u : Value} {c : Array Value} {t : TypeId} (h : (w.setCell ⟨b, o, none⟩ u).drew = w') (hb : w.heap[b]? = some (.cells c t)) : w'.heap[b]? = some (.cells (c.setIfInBounds o u) t) := by
  subst h; exact heap_setCell_at hb o u
theorem setd_ne {w w' : World} {b o : Nat} {u : Value} (h : (w.setCell ⟨b, o, none⟩ u).drew = w') {k : Nat} (hk : k ≠ b) : w'.heap[k]? = w.heap[k]? := by
  subst h; exact Below.heap_setCell _ _ _ _ (fun e => hk e)
theorem setd_size {w w' : World} {b o : Nat} {u : Value} (h : (w.setCell ⟨b, o, none⟩ u).drew = w') : w'.heap.size = w.heap.size := by
  subst h; simp [World.setCell]
theorem setd_turn {a w w' : World} {b o : Nat} {u : Value} (h : (w.setCell ⟨b, o, none⟩ u).drew = w') (t : Turn Nn a w) (hb : a.heap.size ≤ b) : Turn Nn a w' := by
  subst h; exact (t.setCell (p := ⟨b, o, none⟩) (.inr hb) u).drew

theorem kcell {wi w' : World} {a b c : Value} {t : TypeId} (h : Turn Nn (wi.alloc (.cells #[a, b, c] t)) w') :
    w'.cell? ⟨wi.heap.size, 0, none⟩ = some a ∧ w'.cell? ⟨wi.heap.size, 1, none⟩ = some b ∧ w'.cell? ⟨wi.heap.size, 2, none⟩ = some c := by
  have hb : w'.heap[wi.heap.size]? = some (.cells #[a, b, c] t) := (h.block _ (by rw [World.size_alloc]; omega) (fun h => h)).trans (World.alloc_heap_new wi _)
  exact ⟨cell_blk hb, cell_blk hb, cell_blk hb⟩

/-- The blocks that a turn's line turns. -/
def RS (r : Nat) (v : Value) (k : Nat) : Prop := k = r ∨ v.ownBlock = some k

/-- What a line's parser answers, whatever it appends to. -/
def RPostV (w : World) (B r ph : Nat) (v : Value) (x : Except Int ScriptD) (e : Ending) (w' : World) : Prop :=
  (match x with
    | .error c => e = .returned (.int .i64 c)
    | .ok s' => e = .returned (.int .i64 0) ∧ ∃ v', RAt w' B r ph s' v' ∧ (v'.ownBlock = v.ownBlock ∨ ∃ k, v'.ownBlock = some k ∧ w.heap.size ≤ k)) ∧ Turn (RS r v) w w'

theorem RPostV.err {w w' : World} {B r ph : Nat} {v : Value} {x : Except Int ScriptD} {c : Int} (h : x = .error c) (t : Turn (RS r v) w w') : RPostV w B r ph v x (.returned (.int .i64 c)) w' := ⟨by rw [h], t⟩
theorem RPostV.good {w w' : World} {B r ph : Nat} {v v' : Value} {x : Except Int ScriptD} {s : ScriptD} (h : x = .ok s) (a : RAt w' B r ph s v') (hv : v'.ownBlock = v.ownBlock ∨ ∃ k, v'.ownBlock = some k ∧ w.heap.size ≤ k) (t : Turn (RS r v) w w') : RPostV w B r ph v x (.returned (.int .i64 0)) w' := ⟨by rw [h]; exact ⟨rfl, v', a, hv⟩, t⟩
theorem RPost.any {w : World} {B r ph : Nat} {v : Value} {x : Except Int ScriptD} {e : Ending} {w' : World} (h : RPost w B r ph v x e w') : RPostV w B r ph v x e w' := by
  refine ⟨?_, h.2.mono (fun k hk => .inl hk)⟩
  cases x with
  | error c => exact h.1
  | ok s => exact ⟨h.1.1, v, h.1.2, .inl rfl⟩

theorem infoT : (Tryz.prog.info? 60).map (fun i => (i.zero, i.size, i.bytes)) = some (some (.agg #[.int .i64 0, .int .i64 0, .int .i64 0]), 3, 24) := by kernel_rfl

/-- A turn more. -/
theorem push_turn {w0 w w8 wd : World} {r : Nat} {s : ScriptD} {v : Value} {k a c : Int} (h : RAt w w0.heap.size r 2 s v) (hb0 : Below w0.heap.size w0 w) (T : Turn Nn w w8) (hwd : w8.drew = wd) (hn : s.turns.length ≤ 4096) (ty : TypeId) :
    ∃ v' W', (Builtin.append_ #[24, 24] ty #[v, .slice (some ⟨wd.heap.size, 0, none⟩) 1 1]).run Tryz.prog (wd.alloc (.cells #[.int .i64 k, .int .i64 a, .int .i64 c] 60)) = .ok v' W' ∧
      W'.cell? ⟨r, 5, none⟩ = some v ∧ W'.frozen? ⟨r, 5, none⟩ = false ∧
      (∀ tb, w.heap.size ≤ tb → tb < w8.heap.size → W'.heap[tb]? = wd.heap[tb]? ∧ (W'.setCell ⟨r, 5, none⟩ v').heap[tb]? = wd.heap[tb]?) ∧
      RAt (W'.setCell ⟨r, 5, none⟩ v') w0.heap.size r 2 { s with turns := s.turns ++ [⟨k, a, c⟩] } v' ∧ (v'.ownBlock = v.ownBlock ∨ ∃ j, v'.ownBlock = some j ∧ w.heap.size ≤ j) ∧ Turn (RS r v) w (W'.setCell ⟨r, 5, none⟩ v') := by
  subst hwd
  obtain ⟨i0, hi, hz⟩ := Option.map_eq_some_iff.1 infoT
  simp only [Prod.mk.injEq] at hz
  obtain ⟨hz0, hz1, hz2⟩ := hz
  have t8 : Turn Nn w (w8.drew.alloc (.cells #[.int .i64 k, .int .i64 a, .int .i64 c] 60)) := (T.drew).alloc _
  have hown1 := ownsRow_turn h.own t8
  have hnew : (w8.drew.alloc (.cells #[.int .i64 k, .int .i64 a, .int .i64 c] 60)).heap[w8.drew.heap.size]? = some (.cells #[.int .i64 k, .int .i64 a, .int .i64 c] 60) := World.alloc_heap_new _ _
  obtain ⟨v', W', hrun, hown', hgrow, _, hblk⟩ := run_append_own_at (P := Tryz.prog) (w8.drew.alloc (.cells #[.int .i64 k, .int .i64 a, .int .i64 c] 60)) w0.heap.size 24 ty 60 i0 _ 3 24 Tryz.underlying24 hi hz0 hz1 hz2 rfl (by decide) v _ _ hown1 ⟨w8.drew.heap.size, 0, none⟩ 1 1 [.int .i64 k, .int .i64 a, .int .i64 c] rfl
    (fun j u hj => by
      have hj3 : j < 3 := by
        have := (List.getElem?_eq_some_iff.1 hj).1
        simpa using this
      have : (⟨w8.drew.heap.size, 0, none⟩ : Addr).add j = ⟨w8.drew.heap.size, j, none⟩ := by unfold Addr.add; split <;> simp_all
      rw [this, cell_blk hnew]
      simpa using hj)
    (fun u hu => by simp at hu; rcases hu with rfl | rfl | rfl <;> rfl) (by simp only [maxLen]; omega) (by omega) (Nat.le_trans hb0.size t8.size)
  have hB1 : (w8.drew.alloc (.cells #[.int .i64 k, .int .i64 a, .int .i64 c] 60)).heap[r]? = some (.cells (rcells s v (nextF 2 r)) 85) := (t8.block r (heap_lt h.blk) (fun h => h)).trans h.blk
  have hB2 : W'.heap[r]? = some (.cells (rcells s v (nextF 2 r)) 85) := (hgrow.block r (heap_lt hB1) (fun e => h.apart e.symm)).trans hB1
  have hvr : v'.ownBlock ≠ some r := by
    rcases hblk with e | e
    · rw [e]; exact h.apart
    · rw [e]; intro e2; simp only [Option.some.injEq] at e2; have := heap_lt hB1; omega
  refine ⟨v', W', hrun, cell_blk hB2, frozen_blk hB2, fun tb htb htb2 => ?_, ⟨heap_setCell_at hB2 5 v', ?_, hvr, h.low⟩, ?_, ?_⟩
  · have e1 : W'.heap[tb]? = w8.drew.heap[tb]? := (hgrow.block tb (by rw [World.size_alloc]; exact Nat.lt_succ_of_lt htb2) (fun e => by have := (h.own.lt tb e.symm).2; omega)).trans (Below.heap_alloc _ _ _ htb2)
    exact ⟨e1, (Below.heap_setCell _ _ _ _ (fun e => by have := heap_lt h.blk; have : r = tb := e.symm; omega)).trans e1⟩
  · refine own_blk (w := W') ?_ (fun j hj => Below.heap_setCell _ _ _ _ (fun e => hvr (by rw [hj]; exact congrArg some e)))
    have e1 : (s.turns ++ [(⟨k, a, c⟩ : TurnD)]).length = s.turns.length + 1 := by simp
    have e2 : turnCells (s.turns ++ [(⟨k, a, c⟩ : TurnD)]) = turnCells s.turns ++ [.int .i64 k, .int .i64 a, .int .i64 c] := by unfold turnCells; simp
    show W'.ownsRow w0.heap.size 60 3 v' (s.turns ++ [(⟨k, a, c⟩ : TurnD)]).length (turnCells (s.turns ++ [(⟨k, a, c⟩ : TurnD)]))
    rw [e1, e2]; exact hown'
  · rcases hblk with e | e
    · exact .inl e
    · exact .inr ⟨_, e, t8.size⟩
  · refine Turn.setCell (Turn.trans (t8.wide) ⟨hgrow.os, hgrow.tape, hgrow.output, hgrow.size, fun j hj hs => hgrow.block j hj (fun e => hs (.inr e.symm))⟩) (p := ⟨r, 5, none⟩) (.inl (.inl rfl)) _

def STurn (tb : Nat) (k a c : Int) (u : World) : Prop := u.cell? ⟨tb, 0, none⟩ = some (.int .i64 k) ∧ u.cell? ⟨tb, 1, none⟩ = some (.int .i64 a) ∧ u.cell? ⟨tb, 2, none⟩ = some (.int .i64 c)

theorem numbers_skip {v : Value} {L : List Bs} {w : World} (hv : StrSl w v L) (hL : L.length ≤ 1000000) (hs : ∀ i, i < L.length → (L[i]?.getD []).length ≤ 1000000) (hl : Laid w) {x : Bool} (hx : (numsL L).isSome = x) :
    Calls Tryz.prog 54 #[v] w fun e w' => ∃ v', e = .returned (.tuple #[v', .bool x]) ∧ Turn Nn w w' := by
  refine (numbers_any hv hL hs hl).mono ?_
  rintro e w' ⟨⟨v', he, _⟩, ht⟩
  rw [hx] at he
  exact ⟨v', he, ht⟩
end Go.Proofs.YtjnllclpdllceaaGreatDoor
