/- The table's Put, Take, Close over a list of slots. -/
import Derived.Test.YtjnekmdocbmofaaCi
import Derived.Outline
namespace Go.Proofs.Ytjnekmdocbmofaa
set_option linter.unusedSimpArgs false
set_option linter.unusedVariables false
open Go.RowKit Go.Shelf

/-- The blocks of a table that its methods write. -/
def TOwn (sb : Nat) (cs : List (Option Ch)) (k : Nat) : Prop := k = sb ∨ ∃ c, some c ∈ cs ∧ c.base ≤ k ∧ k ≤ c.base + 2

def Ch.setl (c : Ch) (s : Bool) (L : List Int) : Ch := if s then { c with l1 := L } else { c with l0 := L }
def Ch.shut (c : Ch) (s : Bool) : Ch := if s then { c with o1 := false } else { c with o0 := false }
theorem Ch.setl_base (c : Ch) (s L) : (c.setl s L).base = c.base := by cases s <;> rfl
theorem Ch.shut_base (c : Ch) (s) : (c.shut s).base = c.base := by cases s <;> rfl
def qb (c : Ch) (s : Bool) : Nat := if s then c.base + 1 else c.base

theorem ChIs.setl {w w' m} {c : Ch} (h : ChIs w m c) (s : Bool) {L} (hq : QIs w' (qb c s) L m) (t : Turn (QIn (qb c s)) w w') : ChIs w' m (c.setl s L) := by
  cases s
  · exact ⟨(t.block _ (heap_lt h.1) (fun e => by have e : c.base + 2 = c.base := e; omega)).trans h.1, hq, h.2.2.turn t (fun e => by have e : c.base + 1 = c.base := e; omega)⟩
  · exact ⟨(t.block _ (heap_lt h.1) (fun e => by have e : c.base + 2 = c.base + 1 := e; omega)).trans h.1, h.2.1.turn t (fun e => by have e : c.base = c.base + 1 := e; omega), hq⟩

def ChIn (c : Ch) (k : Nat) : Prop := c.base ≤ k ∧ k ≤ c.base + 2

theorem chVals_set {cs : List (Option Ch)} {i : Nat} {c c' : Ch} (hc : cs[i]? = some (some c)) (hb : c'.base = c.base) : chVals (cs.set i (some c')) = chVals cs := by
  unfold chVals
  rw [List.map_set]
  congr 1
  apply List.ext_getElem?
  intro j
  rw [List.getElem?_set]
  split
  · rename_i e; subst e
    have hi : i < cs.length := by
      rcases Nat.lt_or_ge i cs.length with h | h
      · exact h
      · rw [List.getElem?_eq_none h] at hc; cases hc
    have hce : cs[i] = some c := by rw [List.getElem?_eq_getElem hi] at hc; simpa using hc
    simp [List.getElem?_map, hce, chPtr, hb, hi]
  · rfl

theorem TabIs.upd {w w' tb sb n m cs} (h : TabIs w tb sb n m cs) {i : Nat} {c c' : Ch} (hc : cs[i]? = some (some c)) (hb : c'.base = c.base) (t : Turn (ChIn c) w w') (hch : ChIs w' m c') :
    TabIs w' tb sb n m (cs.set i (some c')) := by
  have hts := h.ts
  have hcm := (h.ch c (List.mem_of_getElem? hc))
  have hn1 : ∀ k, k ≤ tb → ¬ ChIn c k := fun k hk e => by have := e.1; have := hcm.2; omega
  have hi : i < cs.length := by
    rcases Nat.lt_or_ge i cs.length with h | h
    · exact h
    · rw [List.getElem?_eq_none h] at hc; cases hc
  have hget : ∀ j d, (cs.set i (some c'))[j]? = some (some d) → (j = i ∧ d = c') ∨ (j ≠ i ∧ cs[j]? = some (some d)) := fun j d hj => by
    rw [List.getElem?_set] at hj
    split at hj
    · rename_i e; subst e
      exact .inl ⟨rfl, by simpa using hj.symm⟩
    · exact .inr ⟨fun e => by subst e; exact absurd rfl ‹_›, hj⟩
  refine ⟨(t.block _ (heap_lt h.tab) (hn1 _ (Nat.le_refl _))).trans h.tab, ?_, by rw [List.length_set]; exact h.len, h.n64, h.m1, h.m16, h.ts, fun d hd => ?_, fun a b d e ha hb' hab => ?_⟩
  · rw [chVals_set hc hb]
    exact (t.block _ (heap_lt h.slots) (hn1 _ (by omega))).trans h.slots
  · obtain ⟨j, hj⟩ := List.mem_iff_getElem?.1 hd
    rcases hget j d hj with ⟨rfl, rfl⟩ | ⟨h1, h2⟩
    · exact ⟨hch, by rw [hb]; exact hcm.2⟩
    · have hap := h.apart j i d c h2 hc h1
      have hd2 := h.ch d (List.mem_of_getElem? h2)
      refine ⟨hd2.1.turn t ?_ ?_ ?_, hd2.2⟩ <;> (intro e; have e1 := e.1; have e2 := e.2; omega)
  · rcases hget a d ha with ⟨h1, rfl⟩ | ⟨h1, h2⟩
    · rcases hget b e hb' with ⟨h3, rfl⟩ | ⟨h3, h4⟩
      · omega
      · subst h1; rw [hb]; exact h.apart a b c e hc h4 hab
    · rcases hget b e hb' with ⟨h3, rfl⟩ | ⟨h3, h4⟩
      · subst h3; rw [hb]; exact h.apart a b d c h2 hc hab
      · exact h.apart a b d e h2 h4 hab

theorem acell0 (w : World) (a b : Value) (t : TypeId) : (w.alloc (.cells #[a, b] t)).cell? ⟨w.heap.size, 0, none⟩ = some a := by
  rw [cell_blk (World.alloc_heap_new w _)]; rfl
theorem acell1 (w : World) (a b : Value) (t : TypeId) : (w.alloc (.cells #[a, b] t)).cell? ⟨w.heap.size, 1, none⟩ = some b := by
  rw [cell_blk (World.alloc_heap_new w _)]; rfl
theorem acell (w : World) (a : Value) (t : TypeId) : (w.alloc (.cells #[a] t)).cell? ⟨w.heap.size, 0, none⟩ = some a := by
  rw [cell_blk (World.alloc_heap_new w _)]; rfl

/-- The end is open: it has a channel, and its side is open. -/
def openA (cs : List (Option Ch)) (e : Int) : Bool := match sideOf cs e with
  | some (_, s, c) => c.o s
  | none => false

theorem ask_stale {w : World} {tb sb n m cs} (h : TabIs w tb sb n m cs) (e : Int) (he : openA cs e = false) (rs : Value) :
    Calls Try.prog 46 #[.pointer (some ⟨tb, 0, none⟩), .int .i64 e, rs] w fun r w' => r = .returned (.int .i64 24) ∧ Turn Nn w w' := by
  unfold openA at he
  cases hs : sideOf cs e with
  | none => exact ask_lost (find_no h e hs)
  | some x =>
    obtain ⟨i, s, c⟩ := x
    rw [hs] at he
    simp only at he
    have ho := ((h.ch c (List.mem_of_getElem? (sideOf_some hs).2.1)).1.open1 s)
    rw [he] at ho
    exact ask_shut ho (find_yes h e hs)

set_option maxHeartbeats 1000000 in
theorem put_stale {w : World} {tb sb n m cs} (h : TabIs w tb sb n m cs) (e x : Int) (he : openA cs e = false) :
    Calls Try.prog 29 #[.pointer (some ⟨tb, 0, none⟩), .int .i64 e, .int .i64 x] w fun r w' => r = .returned (.int .i64 24) ∧ Turn Nn w w' := by
  have HT := Lib.hid h
  have HE := Lib.hid he
  clear h he
  go_enter Try.func29, Try.ntmps29
  go_wp2_with fail
  refine (ask_stale (HT.out.turn' (((Turn.refl Nn w).alloc _).alloc _)) e HE.out _).mono ?_
  rintro r w1 ⟨rfl, t1⟩
  go_wp2_with fail
  go_ret
  exact ⟨rfl, (((Turn.refl Nn w).alloc _).alloc _).trans t1⟩

set_option maxHeartbeats 1000000 in
theorem take_stale {w : World} {tb sb n m cs} (h : TabIs w tb sb n m cs) (e : Int) (he : openA cs e = false) :
    Calls Try.prog 31 #[.pointer (some ⟨tb, 0, none⟩), .int .i64 e] w fun r w' => r = .returned (.tuple #[.int .i64 0, .int .i64 24]) ∧ Turn Nn w w' := by
  have HT := Lib.hid h
  have HE := Lib.hid he
  clear h he
  go_enter Try.func31, Try.ntmps31
  go_wp2_with fail
  refine (ask_stale (HT.out.turn' (((Turn.refl Nn w).alloc _).alloc _)) e HE.out _).mono ?_
  rintro r w1 ⟨rfl, t1⟩
  have hc0 : w1.heap[w.heap.size]? = some (.cells #[.int .i64 0] 2) :=
    ((((Turn.refl Nn _).alloc _).trans t1).block _ (by simp) (fun h => h)).trans (World.alloc_heap_new w (.cells #[.int .i64 0] 2))
  have hc1 : w1.cell? ⟨w.heap.size, 0, none⟩ = some (.int .i64 0) := by rw [cell_blk hc0]; rfl
  have hc2 : w1.frozen? ⟨w.heap.size, 0, none⟩ = false := frozen_blk hc0 _
  go_wp2_with fail
  refine bodyPost_ret (v := .tuple #[.int .i64 0, .int .i64 24]) ?_ rfl ⟨rfl, ?_⟩
  · simp only [results, show Try.f31.results = #[.cell 4 2, .tmp 5] from rfl]
    go_simp
  · exact ((((Turn.refl Nn w).alloc _).alloc _).trans t1).setCell (p := ⟨w.heap.size, 0, none⟩) (.inr (Nat.le_refl _)) _

/-- Where a table stands, its channel's side, its queue, and what its calls answer. -/
structure Side (w : World) (tb sb n m : Nat) (cs : List (Option Ch)) (e : Int) (i : Nat) (s : Bool) (c : Ch) : Prop where
  tab : TabIs w tb sb n m cs
  of : sideOf cs e = some (i, s, c)

theorem Side.turn {w w' tb sb n m cs e i s c} (h : Side w tb sb n m cs e i s c) (t : Turn Nn w w') : Side w' tb sb n m cs e i s c := ⟨h.tab.turn' t, h.of⟩
theorem Side.ch {w tb sb n m cs e i s c} (h : Side w tb sb n m cs e i s c) : ChIs w m c := (h.tab.ch c (List.mem_of_getElem? (sideOf_some h.of).2.1)).1
theorem Side.find {w tb sb n m cs e i s c} (h : Side w tb sb n m cs e i s c) : Calls Try.prog 58 #[.pointer (some ⟨tb, 0, none⟩), .int .i64 e] w fun r w' => r = .returned (.tuple #[sideV (c.base + 2) s, .bool true]) ∧ Turn Nn w w' := find_yes h.tab e h.of
theorem Side.open1 {w tb sb n m cs e i s c} (h : Side w tb sb n m cs e i s c) (b : Bool) (ho : c.o s = b) : Open1 (c.base + 2) s b w := by rw [← ho]; exact h.ch.open1 s
theorem Side.room {w tb sb n m cs e i s c} (h : Side w tb sb n m cs e i s c) {z : Int} (hz : (if (c.l s).length = m then 22 else 0) = z) :
    Calls Try.prog 48 #[sideV (c.base + 2) s] w fun r w' => r = .returned (.int .i64 z) ∧ Turn Nn w w' := by rw [← hz]; exact room_any h.ch s
theorem Side.has {w tb sb n m cs e i s c} (h : Side w tb sb n m cs e i s c) {z : Int} (hz : (if (c.l (!s)).length = 0 then 23 else 0) = z) :
    Calls Try.prog 53 #[sideV (c.base + 2) s] w fun r w' => r = .returned (.int .i64 z) ∧ Turn Nn w w' := by
  rw [← hz]; have := some_any h.ch s; cases s <;> exact this
theorem Side.q {w tb sb n m cs e i s c} (h : Side w tb sb n m cs e i s c) (r : Bool) : QIs w (qb c r) (c.l r) m := by cases r; exact h.ch.2.1; exact h.ch.2.2
theorem Side.lt {w tb sb n m cs e i s c} (h : Side w tb sb n m cs e i s c) : c.base + 2 < w.heap.size := heap_lt h.ch.1
theorem Side.out {w tb sb n m cs e i s c} (h : Side w tb sb n m cs e i s c) :
    Calls Try.prog 50 #[sideV (c.base + 2) s] w fun r w' => r = .returned (.pointer (some ⟨qb c s, 0, none⟩)) ∧ Turn Nn w w' := out_any h.ch.1 s
theorem Side.inn {w tb sb n m cs e i s c} (h : Side w tb sb n m cs e i s c) :
    Calls Try.prog 55 #[sideV (c.base + 2) s] w fun r w' => r = .returned (.pointer (some ⟨qb c (!s), 0, none⟩)) ∧ Turn Nn w w' := by
  have := in_any h.ch.1 s
  cases s <;> exact this

theorem qb_in (c : Ch) (s : Bool) (k : Nat) (h : QIn (qb c s) k) : ChIn c k := by
  have h : k = qb c s := h
  unfold qb at h
  unfold ChIn
  split at h <;> omega

theorem Side.put1 {w tb sb n m cs e i s c} (h : Side w tb sb n m cs e i s c) (hl : (c.l s).length < m) {vb : Nat} {x : Int} (hv : w.cell? ⟨vb, 0, none⟩ = some (.int .i64 x)) (hvb : c.base + 2 < vb) :
    Calls Try.prog 49 #[sideV (c.base + 2) s, .pointer (some ⟨vb, 0, none⟩)] w fun r w' => r = .returned (.int .i64 0) ∧ TabIs w' tb sb n m (cs.set i (some (c.setl s (c.l s ++ [x])))) ∧ Turn (ChIn c) w w' := by
  refine (put1_ok (fun w1 t => (h.turn t).out) (h.q s) hl (fun hq => by unfold qb at hq; split at hq <;> omega) hv).mono ?_
  rintro r w' ⟨rfl, q, t⟩
  exact ⟨rfl, h.tab.upd (sideOf_some h.of).2.1 (c.setl_base _ _) (t.mono (qb_in c s)) (h.ch.setl s q t), t.mono (qb_in c s)⟩

theorem Turn.fresh {A S : Nat → Prop} {a b c : World} (h : Turn Nn a b) (k : Turn A b c) (hs : ∀ k, A k → S k ∨ a.heap.size ≤ k) : Turn S a c :=
  ⟨k.os.trans h.os, k.tape.trans h.tape, k.output.trans h.output, Nat.le_trans h.size k.size, fun i hi hn => (k.block i (Nat.lt_of_lt_of_le hi h.size) (fun ha => by
    rcases hs i ha with h1 | h1
    · exact hn h1
    · omega)).trans (h.block i hi (fun h => h))⟩

theorem Side.take1 {w tb sb n m cs e i s c} (h : Side w tb sb n m cs e i s c) {x : Int} {L : List Int} (hl : c.l (!s) = x :: L) {vb : Nat} {y : Value} (hv : w.heap[vb]? = some (.cells #[y] 2)) (hvb : c.base + 2 < vb) :
    Calls Try.prog 54 #[sideV (c.base + 2) s, .pointer (some ⟨vb, 0, none⟩)] w fun r w' => r = .returned (.int .i64 0) ∧ QIs w' (qb c (!s)) L m ∧ w'.heap[vb]? = some (.cells #[.int .i64 x] 2) ∧ Turn (fun k => k = qb c (!s) ∨ k = vb) w w' := by
  have hq := h.q (!s)
  rw [hl] at hq
  have hne : vb ≠ qb c (!s) := fun hq => by unfold qb at hq; split at hq <;> omega
  exact take1_ok (fun w1 t => (h.turn t).inn) hq hne hv

set_option maxHeartbeats 1000000 in
theorem put_room {w : World} {tb sb n m cs} (x : Int) {e i s c} (h : Side w tb sb n m cs e i s c) (ho : c.o s = true) (hl : (c.l s).length = m) :
    Calls Try.prog 29 #[.pointer (some ⟨tb, 0, none⟩), .int .i64 e, .int .i64 x] w fun r w' => r = .returned (.int .i64 22) ∧ Turn Nn w w' := by
  have HT := Lib.hid h
  have HL := Lib.hid (show (if (c.l s).length = m then 22 else 0) = (22 : Int) from if_pos hl)
  have HO := Lib.hid ho
  clear h hl ho
  go_enter Try.func29, Try.ntmps29
  go_wp2_with fail
  obtain ⟨w2, hw2⟩ : ∃ w2, (w.alloc (.cells #[.int .i64 x] 2)).alloc (.cells #[.func (.func 48) #[] #[], .func (.func 49) #[] #[.pointer (some ⟨w.heap.size, 0, none⟩)]] 86) = w2 := ⟨_, rfl⟩
  have hR : Cell1 (w.heap.size + 1) 0 (.func (.func 48) #[] #[]) w2 := Cell1.of (by rw [← hw2]; simp)
  rw [hw2]
  have t2 : Turn Nn w w2 := by rw [← hw2]; exact ((Turn.refl Nn w).alloc _).alloc _
  have S2 := HT.out.turn t2
  clear hw2
  refine (ask_two1_48 (vb := 0) hR (S2.open1 true HO.out) S2.find (fun w1 t => (S2.turn t).room HL.out)).mono ?_
  rintro r w1 ⟨rfl, t1⟩
  go_wp2_with fail
  go_ret
  exact ⟨rfl, t2.trans t1⟩

set_option maxHeartbeats 1000000 in
theorem put_ok1 {w : World} {tb sb n m cs} (x : Int) {e i s c} (h : Side w tb sb n m cs e i s c) (ho : c.o s = true) (hl : (c.l s).length < m) :
    Calls Try.prog 29 #[.pointer (some ⟨tb, 0, none⟩), .int .i64 e, .int .i64 x] w fun r w' => r = .returned (.int .i64 0) ∧ TabIs w' tb sb n m (cs.set i (some (c.setl s (c.l s ++ [x])))) ∧ Turn (ChIn c) w w' := by
  have HT := Lib.hid h
  have HL := Lib.hid (show (if (c.l s).length = m then 22 else 0) = (0 : Int) from if_neg (by omega))
  have HL2 := Lib.hid hl
  have HO := Lib.hid ho
  clear h hl ho
  go_enter Try.func29, Try.ntmps29
  go_wp2_with fail
  obtain ⟨w2, hw2⟩ : ∃ w2, (w.alloc (.cells #[.int .i64 x] 2)).alloc (.cells #[.func (.func 48) #[] #[], .func (.func 49) #[] #[.pointer (some ⟨w.heap.size, 0, none⟩)]] 86) = w2 := ⟨_, rfl⟩
  have hR : Cell1 (w.heap.size + 1) 0 (.func (.func 48) #[] #[]) w2 := Cell1.of (by rw [← hw2]; simp)
  have hR1 : Cell1 (w.heap.size + 1) 1 (.func (.func 49) #[] #[.pointer (some ⟨w.heap.size, 0, none⟩)]) w2 := Cell1.of (by rw [← hw2]; simp)
  have hV : Cell1 w.heap.size 0 (.int .i64 x) w2 := Cell1.of (by rw [← hw2, World.cell?_alloc_lt _ _ _ (by simp)]; exact acell w _ _)
  rw [hw2]
  have t2 : Turn Nn w w2 := by rw [← hw2]; exact ((Turn.refl Nn w).alloc _).alloc _
  have S2 := HT.out.turn t2
  clear hw2
  refine (ask_two0_48 (R := fun w' => TabIs w' tb sb n m (cs.set i (some (c.setl s (c.l s ++ [x])))) ∧ Turn (ChIn c) w w') hR1 hR (S2.open1 true HO.out) S2.find (fun w1 t => (S2.turn t).room HL.out) (fun w1 t => ?_)).mono ?_
  · refine ((S2.turn t).put1 HL2.out (hV Nn w1 t (fun h => h)) HT.out.lt).mono ?_
    rintro r w' ⟨rfl, h1, h2⟩
    exact ⟨rfl, h1, ((t2.trans t).mono (fun _ h => h.elim)).trans h2⟩
  rintro r w1 ⟨rfl, h1, h2⟩
  have H1 := Lib.hid h1
  clear h1
  go_wp2_with fail
  go_ret
  exact ⟨rfl, H1.out, h2⟩

set_option maxHeartbeats 1000000 in
theorem take_none {w : World} {tb sb n m cs} {e i s c} (h : Side w tb sb n m cs e i s c) (ho : c.o s = true) (hl : c.l (!s) = []) :
    Calls Try.prog 31 #[.pointer (some ⟨tb, 0, none⟩), .int .i64 e] w fun r w' => r = .returned (.tuple #[.int .i64 0, .int .i64 23]) ∧ Turn Nn w w' := by
  have HT := Lib.hid h
  have HL := Lib.hid (show (if (c.l (!s)).length = 0 then 23 else 0) = (23 : Int) from if_pos (by rw [hl]; rfl))
  have HO := Lib.hid ho
  clear h hl ho
  go_enter Try.func31, Try.ntmps31
  go_wp2_with fail
  obtain ⟨w2, hw2⟩ : ∃ w2, (w.alloc (.cells #[.int .i64 0] 2)).alloc (.cells #[.func (.func 53) #[] #[], .func (.func 54) #[] #[.pointer (some ⟨w.heap.size, 0, none⟩)]] 86) = w2 := ⟨_, rfl⟩
  have hR : Cell1 (w.heap.size + 1) 0 (.func (.func 53) #[] #[]) w2 := Cell1.of (by rw [← hw2]; simp)
  have hV : w2.heap[w.heap.size]? = some (.cells #[.int .i64 0] 2) := by rw [← hw2, Below.heap_alloc _ _ _ (by simp)]; exact World.alloc_heap_new w _
  rw [hw2]
  have t2 : Turn Nn w w2 := by rw [← hw2]; exact ((Turn.refl Nn w).alloc _).alloc _
  have S2 := HT.out.turn t2
  clear hw2
  refine (ask_two1_53 (vb := 0) hR (S2.open1 true HO.out) S2.find (fun w1 t => (S2.turn t).has HL.out)).mono ?_
  rintro r w1 ⟨rfl, t1⟩
  have hc0 := (t1.block _ (heap_lt hV) (fun h => h)).trans hV
  have hc1 : w1.cell? ⟨w.heap.size, 0, none⟩ = some (.int .i64 0) := by rw [cell_blk hc0]; rfl
  have hc2 : w1.frozen? ⟨w.heap.size, 0, none⟩ = false := frozen_blk hc0 _
  clear hc0
  go_wp2_with fail
  refine bodyPost_ret (v := .tuple #[.int .i64 0, .int .i64 23]) ?_ rfl ⟨rfl, ?_⟩
  · simp only [results, show Try.f31.results = #[.cell 4 2, .tmp 5] from rfl]
    go_simp
  · exact (t2.trans t1).setCell (p := ⟨w.heap.size, 0, none⟩) (.inr (Nat.le_refl _)) _

set_option maxHeartbeats 1000000 in
theorem take_ok1 {w : World} {tb sb n m cs} {e i s c} (h : Side w tb sb n m cs e i s c) (ho : c.o s = true) {x : Int} {L : List Int} (hl : c.l (!s) = x :: L) :
    Calls Try.prog 31 #[.pointer (some ⟨tb, 0, none⟩), .int .i64 e] w fun r w' => r = .returned (.tuple #[.int .i64 x, .int .i64 0]) ∧ TabIs w' tb sb n m (cs.set i (some (c.setl (!s) L))) ∧ Turn (ChIn c) w w' := by
  have HT := Lib.hid h
  have HL := Lib.hid (show (if (c.l (!s)).length = 0 then 23 else 0) = (0 : Int) from if_neg (by rw [hl]; simp))
  have HL2 := Lib.hid hl
  have HO := Lib.hid ho
  clear h hl ho
  go_enter Try.func31, Try.ntmps31
  go_wp2_with fail
  obtain ⟨w2, hw2⟩ : ∃ w2, (w.alloc (.cells #[.int .i64 0] 2)).alloc (.cells #[.func (.func 53) #[] #[], .func (.func 54) #[] #[.pointer (some ⟨w.heap.size, 0, none⟩)]] 86) = w2 := ⟨_, rfl⟩
  have hR : Cell1 (w.heap.size + 1) 0 (.func (.func 53) #[] #[]) w2 := Cell1.of (by rw [← hw2]; simp)
  have hR1 : Cell1 (w.heap.size + 1) 1 (.func (.func 54) #[] #[.pointer (some ⟨w.heap.size, 0, none⟩)]) w2 := Cell1.of (by rw [← hw2]; simp)
  have hV : w2.heap[w.heap.size]? = some (.cells #[.int .i64 0] 2) := by rw [← hw2, Below.heap_alloc _ _ _ (by simp)]; exact World.alloc_heap_new w _
  rw [hw2]
  have t2 : Turn Nn w w2 := by rw [← hw2]; exact ((Turn.refl Nn w).alloc _).alloc _
  have S2 := HT.out.turn t2
  clear hw2
  refine (ask_two0_53 (R := fun w' => QIs w' (qb c (!s)) L m ∧ w'.heap[w.heap.size]? = some (.cells #[.int .i64 x] 2) ∧ Turn (QIn (qb c (!s))) w w') hR1 hR (S2.open1 true HO.out) S2.find (fun w1 t => (S2.turn t).has HL.out) (fun w1 t => ?_)).mono ?_
  · refine ((S2.turn t).take1 HL2.out ((t.block _ (heap_lt hV) (fun h => h)).trans hV) HT.out.lt).mono ?_
    rintro r w' ⟨rfl, h1, h2, h3⟩
    refine ⟨rfl, h1, h2, (t2.trans t).fresh h3 (fun k hk => ?_)⟩
    rcases hk with hk | hk
    · exact .inl hk
    · exact .inr (by omega)
  rintro r w1 ⟨rfl, h1, hc0, h3⟩
  have hc1 : w1.cell? ⟨w.heap.size, 0, none⟩ = some (.int .i64 x) := by rw [cell_blk hc0]; rfl
  have hc2 : w1.frozen? ⟨w.heap.size, 0, none⟩ = false := frozen_blk hc0 _
  have H1 := Lib.hid h1
  clear hc0 h1 hV hR hR1
  go_wp2_with fail
  have t4 : Turn (QIn (qb c (!s))) w (w1.setCell ⟨w.heap.size, 0, none⟩ (.int .i64 x)) := h3.setCell (p := ⟨w.heap.size, 0, none⟩) (.inr (Nat.le_refl _)) _
  have hqn : ¬ QIn w.heap.size (qb c (!s)) := fun hq => by have hq : qb c (!s) = w.heap.size := hq; have := HT.out.lt; unfold qb at hq; split at hq <;> omega
  have q4 : QIs (w1.setCell ⟨w.heap.size, 0, none⟩ (.int .i64 x)) (qb c (!s)) L m := H1.out.turn ((Turn.refl (QIn w.heap.size) w1).setCell (p := ⟨w.heap.size, 0, none⟩) (.inl rfl) _) hqn
  refine bodyPost_ret (v := .tuple #[.int .i64 x, .int .i64 0]) ?_ rfl ⟨rfl, ?_, ?_⟩
  · simp only [results, show Try.f31.results = #[.cell 4 2, .tmp 5] from rfl]
    go_simp
  · exact HT.out.tab.upd (sideOf_some HT.out.of).2.1 (c.setl_base _ _) (t4.mono (qb_in c _)) (HT.out.ch.setl _ q4 t4)
  · exact t4.mono (qb_in c _)
end Go.Proofs.Ytjnekmdocbmofaa
