/- The table's Close, Open, CanPut, CanTake, Waiting, Live. -/
import Derived.Test.YtjnekmdocbmofaaCj
namespace Go.Proofs.Ytjnekmdocbmofaa
set_option linter.unusedSimpArgs false
set_option linter.unusedVariables false
open Go.RowKit Go.Shelf

theorem acell' (w : World) (a : Value) (t : TypeId) (o : Obj) : ((w.alloc (.cells #[a] t)).alloc o).cell? ⟨w.heap.size, 0, none⟩ = some a := by
  rw [World.cell?_alloc_lt _ _ _ (by simp)]; exact acell w _ _

theorem ChIs.shut {w w' m} {c : Ch} (h : ChIs w m c) (s : Bool)
    (hp : w'.heap[c.base + 2]? = some (.cells #[.bool (c.shut s).o0, .bool (c.shut s).o1, .pointer (some ⟨c.base, 0, none⟩), .pointer (some ⟨c.base + 1, 0, none⟩)] 82)) (t : Turn (QIn (c.base + 2)) w w') : ChIs w' m (c.shut s) := by
  cases s
  all_goals
    exact ⟨hp, h.2.1.turn t (fun e => by have e : c.base = c.base + 2 := e; omega), h.2.2.turn t (fun e => by have e : c.base + 1 = c.base + 2 := e; omega)⟩

theorem chin2 (c : Ch) (k : Nat) (h : QIn (c.base + 2) k) : ChIn c k := by
  have h : k = c.base + 2 := h
  unfold ChIn
  omega

theorem close1h_false {w : World} {tb sb n m cs} {e i c} (h : Side w tb sb n m cs e i false c) (ho : c.o false = true) (hl : c.o (!false) = true) {xb yb : Nat}
    (hx : Cell1 xb 0 (.pointer (some ⟨tb, 0, none⟩)) w) (hy : Cell1 yb 0 (.int .i64 e) w) (hxb : c.base + 2 < xb) (hyb : c.base + 2 < yb) :
    Calls Try.prog 47 #[sideV (c.base + 2) false, .pointer (some ⟨xb, 0, none⟩), .pointer (some ⟨yb, 0, none⟩)] w fun r w' => r = .returned (.int .i64 0) ∧ TabIs w' tb sb n m (cs.set i (some (c.shut false))) ∧ Turn (ChIn c) w w' := by
  have hb := h.ch.1
  rw [show c.o0 = true from ho, show c.o1 = true from hl] at hb
  refine (close1_half0 hb).mono ?_
  rintro r w' ⟨rfl, h1, t⟩
  have hch := h.ch.shut false (w' := w') (by rw [h1]; simp only [Ch.shut, if_true, if_false, Bool.false_eq_true, show c.o1 = true from hl]) t
  exact ⟨rfl, h.tab.upd (sideOf_some h.of).2.1 (c.shut_base _) (t.mono (chin2 c)) hch, t.mono (chin2 c)⟩

theorem close1l_false {w : World} {tb sb n m cs} {e i c} (h : Side w tb sb n m cs e i false c) (ho : c.o false = true) (hl : c.o (!false) = false) {xb yb : Nat}
    (hx : Cell1 xb 0 (.pointer (some ⟨tb, 0, none⟩)) w) (hy : Cell1 yb 0 (.int .i64 e) w) (hxb : c.base + 2 < xb) (hyb : c.base + 2 < yb) :
    Calls Try.prog 47 #[sideV (c.base + 2) false, .pointer (some ⟨xb, 0, none⟩), .pointer (some ⟨yb, 0, none⟩)] w fun r w' => r = .returned (.int .i64 0) ∧ TabIs w' tb sb n m (cs.set i none) ∧ Turn (fun k => ChIn c k ∨ k = sb) w w' := by
  have hb := h.ch.1
  rw [show c.o0 = true from ho, show c.o1 = false from hl] at hb
  obtain ⟨hi, hci, he⟩ := sideOf_some h.of
  have hlen := h.tab.len
  have hts := h.tab.ts
  have htb := (h.tab.ch c (List.mem_of_getElem? hci)).2
  have hcell : w.cell? ⟨sb, i, none⟩ = some (chPtr (some c)) := by
    rw [cell_blk h.tab.slots]; simp [chVals, hci]
  refine (close1_last0 hb hx hy (Cell1.of h.tab.cell0) ⟨_, Cell1.of hcell⟩ (frozen_blk h.tab.slots _) (by omega) h.tab.n64 (by rw [he]; simp only [Bool.false_eq_true, if_false, if_true]; omega) (by rw [he]; simp only [Bool.false_eq_true, if_false, if_true]; omega) (by omega) (by omega) (by omega) (by omega)).mono ?_
  rintro r w' ⟨rfl, w3, h1, t, rfl⟩
  have hch := h.ch.shut false (w' := w3) (by rw [h1]; simp only [Ch.shut, if_true, if_false, Bool.false_eq_true, show c.o1 = false from hl]) t
  have hT := h.tab.upd hci (c.shut_base false) (t.mono (chin2 c)) hch
  have hT2 := hT.setSlot i none (fun c hc => by cases hc)
  rw [List.set_set] at hT2
  exact ⟨rfl, hT2.turn' (Turn.refl Nn _).drew, ((t.mono (T := fun k => ChIn c k ∨ k = sb) (fun k hk => .inl (chin2 c k hk))).setCell (p := ⟨sb, i, none⟩) (.inl (.inr rfl)) _).drew⟩

theorem close1h_true {w : World} {tb sb n m cs} {e i c} (h : Side w tb sb n m cs e i true c) (ho : c.o true = true) (hl : c.o (!true) = true) {xb yb : Nat}
    (hx : Cell1 xb 0 (.pointer (some ⟨tb, 0, none⟩)) w) (hy : Cell1 yb 0 (.int .i64 e) w) (hxb : c.base + 2 < xb) (hyb : c.base + 2 < yb) :
    Calls Try.prog 47 #[sideV (c.base + 2) true, .pointer (some ⟨xb, 0, none⟩), .pointer (some ⟨yb, 0, none⟩)] w fun r w' => r = .returned (.int .i64 0) ∧ TabIs w' tb sb n m (cs.set i (some (c.shut true))) ∧ Turn (ChIn c) w w' := by
  have hb := h.ch.1
  rw [show c.o0 = true from hl, show c.o1 = true from ho] at hb
  refine (close1_half1 hb).mono ?_
  rintro r w' ⟨rfl, h1, t⟩
  have hch := h.ch.shut true (w' := w') (by rw [h1]; simp only [Ch.shut, if_true, if_false, Bool.false_eq_true, show c.o0 = true from hl]) t
  exact ⟨rfl, h.tab.upd (sideOf_some h.of).2.1 (c.shut_base _) (t.mono (chin2 c)) hch, t.mono (chin2 c)⟩

theorem close1l_true {w : World} {tb sb n m cs} {e i c} (h : Side w tb sb n m cs e i true c) (ho : c.o true = true) (hl : c.o (!true) = false) {xb yb : Nat}
    (hx : Cell1 xb 0 (.pointer (some ⟨tb, 0, none⟩)) w) (hy : Cell1 yb 0 (.int .i64 e) w) (hxb : c.base + 2 < xb) (hyb : c.base + 2 < yb) :
    Calls Try.prog 47 #[sideV (c.base + 2) true, .pointer (some ⟨xb, 0, none⟩), .pointer (some ⟨yb, 0, none⟩)] w fun r w' => r = .returned (.int .i64 0) ∧ TabIs w' tb sb n m (cs.set i none) ∧ Turn (fun k => ChIn c k ∨ k = sb) w w' := by
  have hb := h.ch.1
  rw [show c.o0 = false from hl, show c.o1 = true from ho] at hb
  obtain ⟨hi, hci, he⟩ := sideOf_some h.of
  have hlen := h.tab.len
  have hts := h.tab.ts
  have htb := (h.tab.ch c (List.mem_of_getElem? hci)).2
  have hcell : w.cell? ⟨sb, i, none⟩ = some (chPtr (some c)) := by
    rw [cell_blk h.tab.slots]; simp [chVals, hci]
  refine (close1_last1 hb hx hy (Cell1.of h.tab.cell0) ⟨_, Cell1.of hcell⟩ (frozen_blk h.tab.slots _) (by omega) h.tab.n64 (by rw [he]; simp only [Bool.false_eq_true, if_false, if_true]; omega) (by rw [he]; simp only [Bool.false_eq_true, if_false, if_true]; omega) (by omega) (by omega) (by omega) (by omega)).mono ?_
  rintro r w' ⟨rfl, w3, h1, t, rfl⟩
  have hch := h.ch.shut true (w' := w3) (by rw [h1]; simp only [Ch.shut, if_true, if_false, Bool.false_eq_true, show c.o0 = false from hl]) t
  have hT := h.tab.upd hci (c.shut_base true) (t.mono (chin2 c)) hch
  have hT2 := hT.setSlot i none (fun c hc => by cases hc)
  rw [List.set_set] at hT2
  exact ⟨rfl, hT2.turn' (Turn.refl Nn _).drew, ((t.mono (T := fun k => ChIn c k ∨ k = sb) (fun k hk => .inl (chin2 c k hk))).setCell (p := ⟨sb, i, none⟩) (.inl (.inr rfl)) _).drew⟩

set_option maxHeartbeats 1000000 in
theorem close_half {w : World} {tb sb n m cs} {e i s c} (h : Side w tb sb n m cs e i s c) (ho : c.o s = true) (hl : c.o (!s) = true) :
    Calls Try.prog 26 #[.pointer (some ⟨tb, 0, none⟩), .int .i64 e] w fun r w' => r = .returned (.int .i64 0) ∧ TabIs w' tb sb n m (cs.set i (some (c.shut s))) ∧ Turn (ChIn c) w w' := by
  have HT := Lib.hid h
  have HL := Lib.hid hl
  have HO := Lib.hid ho
  clear h hl ho
  go_enter Try.func26, Try.ntmps26
  go_wp2_with fail
  obtain ⟨w2, hw2⟩ : ∃ w2, ((w.alloc (.cells #[.pointer (some ⟨tb, 0, none⟩)] 46)).alloc (.cells #[.int .i64 e] 3)).alloc (.cells #[.func (.func 47) #[] #[.pointer (some ⟨w.heap.size, 0, none⟩), .pointer (some ⟨w.heap.size + 1, 0, none⟩)]] 86) = w2 := ⟨_, rfl⟩
  have hR : Cell1 (w.heap.size + 2) 0 (.func (.func 47) #[] #[.pointer (some ⟨w.heap.size, 0, none⟩), .pointer (some ⟨w.heap.size + 1, 0, none⟩)]) w2 := Cell1.of (by
    rw [← hw2]; have := acell ((w.alloc (.cells #[.pointer (some ⟨tb, 0, none⟩)] 46)).alloc (.cells #[.int .i64 e] 3)) (.func (.func 47) #[] #[.pointer (some ⟨w.heap.size, 0, none⟩), .pointer (some ⟨w.heap.size + 1, 0, none⟩)]) 86; simpa using this)
  have hX : Cell1 w.heap.size 0 (.pointer (some ⟨tb, 0, none⟩)) w2 := Cell1.of (by rw [← hw2, World.cell?_alloc_lt _ _ _ (by simp; omega)]; exact acell' w _ _ _)
  have hY : Cell1 (w.heap.size + 1) 0 (.int .i64 e) w2 := Cell1.of (by rw [← hw2]; have := acell' (w.alloc (.cells #[.pointer (some ⟨tb, 0, none⟩)] 46)) (.int .i64 e) 3 (.cells #[.func (.func 47) #[] #[.pointer (some ⟨w.heap.size, 0, none⟩), .pointer (some ⟨w.heap.size + 1, 0, none⟩)]] 86); simpa using this)
  rw [hw2]
  have t2 : Turn Nn w w2 := by rw [← hw2]; exact (((Turn.refl Nn w).alloc _).alloc _).alloc _
  have S2 := HT.out.turn t2
  have hlt := HT.out.lt
  clear hw2
  refine (ask_close (R := fun w' => TabIs w' tb sb n m (cs.set i (some (c.shut s))) ∧ Turn (ChIn c) w w') hR (S2.open1 true HO.out) S2.find (fun w1 t => ?_)).mono ?_
  · have hX1 : Cell1 w.heap.size 0 (.pointer (some ⟨tb, 0, none⟩)) w1 := Cell1.of (hX Nn w1 t (fun h => h))
    have hY1 : Cell1 (w.heap.size + 1) 0 (.int .i64 e) w1 := Cell1.of (hY Nn w1 t (fun h => h))
    have S3 := S2.turn t
    cases s
    · refine (close1h_false S3 HO.out HL.out hX1 hY1 hlt (by omega)).mono ?_
      rintro r w' ⟨rfl, h1, h2⟩
      exact ⟨rfl, h1, ((t2.trans t).mono (fun _ h => h.elim)).trans h2⟩
    · refine (close1h_true S3 HO.out HL.out hX1 hY1 hlt (by omega)).mono ?_
      rintro r w' ⟨rfl, h1, h2⟩
      exact ⟨rfl, h1, ((t2.trans t).mono (fun _ h => h.elim)).trans h2⟩
  rintro r w1 ⟨rfl, h1, h2⟩
  have H1 := Lib.hid h1
  clear h1
  go_wp2_with fail
  go_ret
  exact ⟨rfl, H1.out, h2⟩

set_option maxHeartbeats 1000000 in
theorem close_last {w : World} {tb sb n m cs} {e i s c} (h : Side w tb sb n m cs e i s c) (ho : c.o s = true) (hl : c.o (!s) = false) :
    Calls Try.prog 26 #[.pointer (some ⟨tb, 0, none⟩), .int .i64 e] w fun r w' => r = .returned (.int .i64 0) ∧ TabIs w' tb sb n m (cs.set i none) ∧ Turn (fun k => ChIn c k ∨ k = sb) w w' := by
  have HT := Lib.hid h
  have HL := Lib.hid hl
  have HO := Lib.hid ho
  clear h hl ho
  go_enter Try.func26, Try.ntmps26
  go_wp2_with fail
  obtain ⟨w2, hw2⟩ : ∃ w2, ((w.alloc (.cells #[.pointer (some ⟨tb, 0, none⟩)] 46)).alloc (.cells #[.int .i64 e] 3)).alloc (.cells #[.func (.func 47) #[] #[.pointer (some ⟨w.heap.size, 0, none⟩), .pointer (some ⟨w.heap.size + 1, 0, none⟩)]] 86) = w2 := ⟨_, rfl⟩
  have hR : Cell1 (w.heap.size + 2) 0 (.func (.func 47) #[] #[.pointer (some ⟨w.heap.size, 0, none⟩), .pointer (some ⟨w.heap.size + 1, 0, none⟩)]) w2 := Cell1.of (by
    rw [← hw2]; have := acell ((w.alloc (.cells #[.pointer (some ⟨tb, 0, none⟩)] 46)).alloc (.cells #[.int .i64 e] 3)) (.func (.func 47) #[] #[.pointer (some ⟨w.heap.size, 0, none⟩), .pointer (some ⟨w.heap.size + 1, 0, none⟩)]) 86; simpa using this)
  have hX : Cell1 w.heap.size 0 (.pointer (some ⟨tb, 0, none⟩)) w2 := Cell1.of (by rw [← hw2, World.cell?_alloc_lt _ _ _ (by simp; omega)]; exact acell' w _ _ _)
  have hY : Cell1 (w.heap.size + 1) 0 (.int .i64 e) w2 := Cell1.of (by rw [← hw2]; have := acell' (w.alloc (.cells #[.pointer (some ⟨tb, 0, none⟩)] 46)) (.int .i64 e) 3 (.cells #[.func (.func 47) #[] #[.pointer (some ⟨w.heap.size, 0, none⟩), .pointer (some ⟨w.heap.size + 1, 0, none⟩)]] 86); simpa using this)
  rw [hw2]
  have t2 : Turn Nn w w2 := by rw [← hw2]; exact (((Turn.refl Nn w).alloc _).alloc _).alloc _
  have S2 := HT.out.turn t2
  have hlt := HT.out.lt
  clear hw2
  refine (ask_close (R := fun w' => TabIs w' tb sb n m (cs.set i none) ∧ Turn (fun k => ChIn c k ∨ k = sb) w w') hR (S2.open1 true HO.out) S2.find (fun w1 t => ?_)).mono ?_
  · have hX1 : Cell1 w.heap.size 0 (.pointer (some ⟨tb, 0, none⟩)) w1 := Cell1.of (hX Nn w1 t (fun h => h))
    have hY1 : Cell1 (w.heap.size + 1) 0 (.int .i64 e) w1 := Cell1.of (hY Nn w1 t (fun h => h))
    have S3 := S2.turn t
    cases s
    · refine (close1l_false S3 HO.out HL.out hX1 hY1 hlt (by omega)).mono ?_
      rintro r w' ⟨rfl, h1, h2⟩
      exact ⟨rfl, h1, ((t2.trans t).mono (fun _ h => h.elim)).trans h2⟩
    · refine (close1l_true S3 HO.out HL.out hX1 hY1 hlt (by omega)).mono ?_
      rintro r w' ⟨rfl, h1, h2⟩
      exact ⟨rfl, h1, ((t2.trans t).mono (fun _ h => h.elim)).trans h2⟩
  rintro r w1 ⟨rfl, h1, h2⟩
  have H1 := Lib.hid h1
  clear h1
  go_wp2_with fail
  go_ret
  exact ⟨rfl, H1.out, h2⟩

set_option maxHeartbeats 1000000 in
theorem close_stale {w : World} {tb sb n m cs} (h : TabIs w tb sb n m cs) (e : Int) (he : openA cs e = false) :
    Calls Try.prog 26 #[.pointer (some ⟨tb, 0, none⟩), .int .i64 e] w fun r w' => r = .returned (.int .i64 24) ∧ Turn Nn w w' := by
  have HT := Lib.hid h
  have HE := Lib.hid he
  clear h he
  go_enter Try.func26, Try.ntmps26
  go_wp2_with fail
  refine (ask_stale (HT.out.turn' ((((Turn.refl Nn w).alloc _).alloc _).alloc _)) e HE.out _).mono ?_
  rintro r w1 ⟨rfl, t1⟩
  go_wp2_with fail
  go_ret
  exact ⟨rfl, ((((Turn.refl Nn w).alloc _).alloc _).alloc _).trans t1⟩

theorem openA_side {w tb sb n m cs e i s c} (h : Side w tb sb n m cs e i s c) : openA cs e = c.o s := by unfold openA; rw [h.of]

theorem Side.mk' {w tb sb n m cs} (h : TabIs w tb sb n m cs) {e : Int} (he : openA cs e = true) : ∃ i s c, Side w tb sb n m cs e i s c ∧ c.o s = true := by
  unfold openA at he
  cases hs : sideOf cs e with
  | none => rw [hs] at he; cases he
  | some x => obtain ⟨i, s, c⟩ := x; rw [hs] at he; exact ⟨i, s, c, ⟨h, hs⟩, he⟩

set_option maxHeartbeats 1000000 in
theorem open_any {w : World} {tb sb n m cs} (h : TabIs w tb sb n m cs) (e : Int) :
    Calls Try.prog 37 #[.pointer (some ⟨tb, 0, none⟩), .int .i64 e] w fun r w' => r = .returned (.bool (openA cs e)) ∧ Turn Nn w w' := by
  cases he : openA cs e with
  | false =>
    have HT := Lib.hid h
    have HE := Lib.hid he
    clear h he
    go_enter Try.func37, Try.ntmps37
    go_wp2_with fail
    refine (ask_stale HT.out e HE.out _).mono ?_
    rintro r w1 ⟨rfl, t1⟩
    go_wp2_with fail
    go_ret
    exact ⟨rfl, t1⟩
  | true =>
    obtain ⟨i, s, c, hs, ho⟩ := Side.mk' h he
    have HT := Lib.hid hs
    have HO := Lib.hid ho
    clear h he hs ho
    go_enter Try.func37, Try.ntmps37
    go_wp2_with fail
    refine (ask_none (HT.out.open1 true HO.out) HT.out.find).mono ?_
    rintro r w1 ⟨rfl, t1⟩
    go_wp2_with fail
    go_ret
    exact ⟨rfl, t1⟩

/-- A word can be sent; a word can be taken. -/
def canPutA (cs : List (Option Ch)) (m : Nat) (e : Int) : Bool := match sideOf cs e with
  | some (_, s, c) => c.o s && decide ((c.l s).length < m)
  | none => false
def canTakeA (cs : List (Option Ch)) (e : Int) : Bool := match sideOf cs e with
  | some (_, s, c) => c.o s && decide (0 < (c.l (!s)).length)
  | none => false
def waitA (cs : List (Option Ch)) (e : Int) : List Int := match sideOf cs e with
  | some (_, s, c) => c.l s
  | none => []

theorem canPut_shut {cs m e} (h : openA cs e = false) : canPutA cs m e = false := by
  unfold openA at h; unfold canPutA; split at h <;> simp_all
theorem canTake_shut {cs e} (h : openA cs e = false) : canTakeA cs e = false := by
  unfold openA at h; unfold canTakeA; split at h <;> simp_all
theorem Side.le {w tb sb n m cs e i s c} (h : Side w tb sb n m cs e i s c) (r : Bool) : (c.l r).length ≤ m := (h.q r).le

set_option maxHeartbeats 1000000 in
theorem canPut_any {w : World} {tb sb n m cs} (h : TabIs w tb sb n m cs) (e : Int) :
    Calls Try.prog 38 #[.pointer (some ⟨tb, 0, none⟩), .int .i64 e] w fun r w' => r = .returned (.bool (canPutA cs m e)) ∧ Turn Nn w w' := by
  cases he : openA cs e with
  | false =>
    rw [canPut_shut he]
    have HT := Lib.hid h
    have HE := Lib.hid he
    clear h he
    go_enter Try.func38, Try.ntmps38
    go_wp2_with fail
    refine (ask_stale (HT.out.turn' ((Turn.refl Nn w).alloc _)) e HE.out _).mono ?_
    rintro r w1 ⟨rfl, t1⟩
    go_wp2_with fail
    go_ret
    exact ⟨rfl, ((Turn.refl Nn w).alloc _).trans t1⟩
  | true =>
    obtain ⟨i, s, c, hs, ho⟩ := Side.mk' h he
    have hc : canPutA cs m e = decide ((c.l s).length < m) := by unfold canPutA; rw [hs.of]; simp only [ho, Bool.true_and]
    rw [hc]
    have hle := hs.le s
    by_cases hlt : (c.l s).length < m
    · rw [decide_eq_true hlt]
      have HZ := Lib.hid (show (if (c.l s).length = m then 22 else 0) = (0 : Int) from if_neg (by omega))
      have HT := Lib.hid hs
      have HO := Lib.hid ho
      clear h he hs ho hc hlt hle
      go_enter Try.func38, Try.ntmps38
      go_wp2_with fail
      obtain ⟨w2, hw2⟩ : ∃ w2, w.alloc (.cells #[.func (.func 48) #[] #[]] 86) = w2 := ⟨_, rfl⟩
      have hR : Cell1 w.heap.size 0 (.func (.func 48) #[] #[]) w2 := Cell1.of (by rw [← hw2]; exact acell _ _ _)
      rw [hw2]
      have t2 : Turn Nn w w2 := by rw [← hw2]; exact (Turn.refl Nn w).alloc _
      have S2 := HT.out.turn t2
      clear hw2
      refine (ask_one0_48 hR (S2.open1 true HO.out) S2.find (fun w1 t => (S2.turn t).room HZ.out)).mono ?_
      rintro r w1 ⟨rfl, t1⟩
      go_wp2_with fail
      go_ret
      exact ⟨rfl, t2.trans t1⟩
    · rw [decide_eq_false hlt]
      have HZ := Lib.hid (show (if (c.l s).length = m then 22 else 0) = (22 : Int) from if_pos (by omega))
      have HT := Lib.hid hs
      have HO := Lib.hid ho
      clear h he hs ho hc hlt hle
      go_enter Try.func38, Try.ntmps38
      go_wp2_with fail
      obtain ⟨w2, hw2⟩ : ∃ w2, w.alloc (.cells #[.func (.func 48) #[] #[]] 86) = w2 := ⟨_, rfl⟩
      have hR : Cell1 w.heap.size 0 (.func (.func 48) #[] #[]) w2 := Cell1.of (by rw [← hw2]; exact acell _ _ _)
      rw [hw2]
      have t2 : Turn Nn w w2 := by rw [← hw2]; exact (Turn.refl Nn w).alloc _
      have S2 := HT.out.turn t2
      clear hw2
      refine (ask_one1_48 hR (S2.open1 true HO.out) S2.find (fun w1 t => (S2.turn t).room HZ.out)).mono ?_
      rintro r w1 ⟨rfl, t1⟩
      go_wp2_with fail
      go_ret
      exact ⟨rfl, t2.trans t1⟩

set_option maxHeartbeats 1000000 in
theorem canTake_any {w : World} {tb sb n m cs} (h : TabIs w tb sb n m cs) (e : Int) :
    Calls Try.prog 39 #[.pointer (some ⟨tb, 0, none⟩), .int .i64 e] w fun r w' => r = .returned (.bool (canTakeA cs e)) ∧ Turn Nn w w' := by
  cases he : openA cs e with
  | false =>
    rw [canTake_shut he]
    have HT := Lib.hid h
    have HE := Lib.hid he
    clear h he
    go_enter Try.func39, Try.ntmps39
    go_wp2_with fail
    refine (ask_stale (HT.out.turn' ((Turn.refl Nn w).alloc _)) e HE.out _).mono ?_
    rintro r w1 ⟨rfl, t1⟩
    go_wp2_with fail
    go_ret
    exact ⟨rfl, ((Turn.refl Nn w).alloc _).trans t1⟩
  | true =>
    obtain ⟨i, s, c, hs, ho⟩ := Side.mk' h he
    have hc : canTakeA cs e = decide (0 < (c.l (!s)).length) := by unfold canTakeA; rw [hs.of]; simp only [ho, Bool.true_and]
    rw [hc]
    have hle := hs.le s
    by_cases hlt : 0 < (c.l (!s)).length
    · rw [decide_eq_true hlt]
      have HZ := Lib.hid (show (if (c.l (!s)).length = 0 then 23 else 0) = (0 : Int) from if_neg (by omega))
      have HT := Lib.hid hs
      have HO := Lib.hid ho
      clear h he hs ho hc hlt hle
      go_enter Try.func39, Try.ntmps39
      go_wp2_with fail
      obtain ⟨w2, hw2⟩ : ∃ w2, w.alloc (.cells #[.func (.func 53) #[] #[]] 86) = w2 := ⟨_, rfl⟩
      have hR : Cell1 w.heap.size 0 (.func (.func 53) #[] #[]) w2 := Cell1.of (by rw [← hw2]; exact acell _ _ _)
      rw [hw2]
      have t2 : Turn Nn w w2 := by rw [← hw2]; exact (Turn.refl Nn w).alloc _
      have S2 := HT.out.turn t2
      clear hw2
      refine (ask_one0_53 hR (S2.open1 true HO.out) S2.find (fun w1 t => (S2.turn t).has HZ.out)).mono ?_
      rintro r w1 ⟨rfl, t1⟩
      go_wp2_with fail
      go_ret
      exact ⟨rfl, t2.trans t1⟩
    · rw [decide_eq_false hlt]
      have HZ := Lib.hid (show (if (c.l (!s)).length = 0 then 23 else 0) = (23 : Int) from if_pos (by omega))
      have HT := Lib.hid hs
      have HO := Lib.hid ho
      clear h he hs ho hc hlt hle
      go_enter Try.func39, Try.ntmps39
      go_wp2_with fail
      obtain ⟨w2, hw2⟩ : ∃ w2, w.alloc (.cells #[.func (.func 53) #[] #[]] 86) = w2 := ⟨_, rfl⟩
      have hR : Cell1 w.heap.size 0 (.func (.func 53) #[] #[]) w2 := Cell1.of (by rw [← hw2]; exact acell _ _ _)
      rw [hw2]
      have t2 : Turn Nn w w2 := by rw [← hw2]; exact (Turn.refl Nn w).alloc _
      have S2 := HT.out.turn t2
      clear hw2
      refine (ask_one1_53 hR (S2.open1 true HO.out) S2.find (fun w1 t => (S2.turn t).has HZ.out)).mono ?_
      rintro r w1 ⟨rfl, t1⟩
      go_wp2_with fail
      go_ret
      exact ⟨rfl, t2.trans t1⟩

set_option maxHeartbeats 1000000 in
theorem waiting_any {w : World} {tb sb n m cs} (h : TabIs w tb sb n m cs) (e : Int) :
    Calls Try.prog 40 #[.pointer (some ⟨tb, 0, none⟩), .int .i64 e] w fun r w' => (∃ v nb, r = .returned v ∧ NewI w' nb v (waitA cs e) ∧ w.heap.size ≤ nb) ∧ Turn Nn w w' := by
  cases hs : sideOf cs e with
  | none =>
    have hf := find_no h e hs
    have hwa : waitA cs e = [] := by unfold waitA; rw [hs]
    rw [hwa]
    have HF := Lib.hid hf
    clear hf h hs hwa
    go_enter Try.func40, Try.ntmps40
    go_wp2_with fail
    refine HF.out.mono ?_
    rintro r w1 ⟨rfl, t1⟩
    go_wp2_with fail
    go_ret
    exact ⟨⟨_, _, rfl, .inl ⟨rfl, rfl⟩, Nat.le_refl _⟩, t1.alloc _⟩
  | some x =>
    obtain ⟨i, s, c⟩ := x
    have hS : Side w tb sb n m cs e i s c := ⟨h, hs⟩
    have hwa : waitA cs e = c.l s := by unfold waitA; rw [hs]
    rw [hwa]
    have HS := Lib.hid hS
    have HF := Lib.hid hS.find
    clear h hs hwa hS
    obtain ⟨L, hL⟩ : ∃ L, c.l s = L := ⟨_, rfl⟩
    obtain ⟨q, hq⟩ : ∃ q, qb c s = q := ⟨_, rfl⟩
    have HU : Hid (∀ w1, Turn Nn w w1 → Calls Try.prog 50 #[sideV (c.base + 2) s] w1 fun r w' => r = .returned (.pointer (some ⟨q, 0, none⟩)) ∧ Turn Nn w1 w') := Lib.hid (fun w1 t => by rw [← hq]; exact (HS.out.turn t).out)
    have HQ : Hid (QIs w q L m) := Lib.hid (by rw [← hq, ← hL]; exact HS.out.q s)
    rw [hL]
    obtain ⟨p, hp⟩ : ∃ p, c.base + 2 = p := ⟨_, rfl⟩
    rw [hp] at HF HU
    clear hL hq hp HS
    cases s
    all_goals
      simp only [sideV, if_true, if_false, Bool.false_eq_true] at HF HU
      go_enter Try.func40, Try.ntmps40
      go_wp2_with fail
      refine HF.out.mono ?_
      rintro r w1 ⟨rfl, t1⟩
      go_wp2_with fail
      refine (HU.out _ (t1.alloc _)).mono ?_
      rintro r w2 ⟨rfl, t2⟩
      have t3 := (t1.alloc _).trans t2
      clear t2 t1
      go_wp2_with fail
      refine (listq rowsSaid (HQ.out.turn t3 (fun h => h))).mono ?_
      rintro r w4 ⟨⟨v, rfl, n4⟩, t4⟩
      have hsz := t3.size
      go_wp2_with fail
      go_ret
      exact ⟨⟨_, _, rfl, n4, hsz⟩, t3.trans t4⟩

/-- How many slots have a channel. -/
def liveA (cs : List (Option Ch)) : Nat := (cs.filter Option.isSome).length

theorem liveA_le (cs : List (Option Ch)) : liveA cs ≤ cs.length := List.length_filter_le _ _

theorem liveA_snoc {cs : List (Option Ch)} {k : Nat} {o : Option Ch} (h : cs[k]? = some o) : liveA (cs.take (k + 1)) = liveA (cs.take k) + (if o.isSome then 1 else 0) := by
  have hk : k < cs.length := by
    rcases Nat.lt_or_ge k cs.length with h1 | h1
    · exact h1
    · rw [List.getElem?_eq_none h1] at h; cases h
  have e : cs[k] = o := by rw [List.getElem?_eq_getElem hk] at h; simpa using h
  unfold liveA
  rw [List.take_succ_eq_append_getElem hk, List.filter_append, List.length_append, e]
  cases o <;> rfl

set_option maxHeartbeats 1000000 in
theorem live_any {w : World} {tb sb n m cs} (h : TabIs w tb sb n m cs) :
    Calls Try.prog 34 #[.pointer (some ⟨tb, 0, none⟩)] w fun r w' => r = .returned (.int .i64 (liveA cs)) ∧ w = w' := by
  have h0 := h.cell0
  have hn := h.len
  have h64 := h.n64
  have hc : ∀ i (h : i < n), w.cell? ⟨sb, i, none⟩ = some (chPtr (cs[i]'(by omega))) := fun i hi => by
    rw [cell_blk h.slots]; simp [chVals, hn, hi]
  have HC := Lib.hid hc
  clear hc h
  go_enter Try.func34, Try.ntmps34
  go_wp2_with fail
  go_loop [2, 12] (fun l i => ∃ k : Nat, k ≤ n ∧ i = .int .i64 k ∧ l = .int .i64 (liveA (cs.take k))) (fun _ i => n - (intOf i).toNat)
  case atStart => exact ⟨0, Nat.zero_le _, rfl, rfl⟩
  case round =>
    obtain ⟨k, hk, rfl, rfl⟩ := hrel
    have hl := liveA_le (cs.take k)
    have hl2 : (cs.take k).length ≤ k := List.length_take_le _ _
    by_cases hlt : k < n
    · have hk2 : (k : Int) < (n : Int) := by omega
      have hg := HC.out k hlt
      have hx : k < cs.length := by omega
      cases hck : cs[k]'hx with
      | none =>
        rw [hck] at hg
        have HL := Lib.hid (liveA_snoc (cs := cs) (k := k) (o := none) (by rw [List.getElem?_eq_getElem hx, hck]))
        simp only [chPtr] at hg
        clear hck
        go_wp2
        go_round
        case rel => exact ⟨k + 1, by omega, by go_num, by rw [HL.out]; rfl⟩
        case measure => simp [intOf]; omega
      | some c =>
        rw [hck] at hg
        have HL := Lib.hid (liveA_snoc (cs := cs) (k := k) (o := some c) (by rw [List.getElem?_eq_getElem hx, hck]))
        simp only [chPtr] at hg
        clear hck
        go_wp2
        go_round
        case rel => exact ⟨k + 1, by omega, by go_num, by rw [HL.out]; go_num⟩
        case measure => simp [intOf]; omega
    · obtain rfl : k = n := by omega
      have HL := Lib.hid (show liveA (cs.take k) = liveA cs by rw [List.take_of_length_le (by omega)])
      go_wp2
      go_ret
      exact ⟨by rw [HL.out]; rfl, rfl⟩
end Go.Proofs.Ytjnekmdocbmofaa
