/- The reader: what lies at its block; its first line. -/
import Derived.Test.YtjnllclpdllceaaGreatDoorSh
import Derived.Laws.EntriesVeiled
namespace Go.Proofs.YtjnllclpdllceaaGreatDoor
set_option linter.unusedSimpArgs false
set_option linter.unusedVariables false
open Go.RowKit Go.Shelf

def BT (l : Bs) : ByteArray := ⟨l.toArray⟩
def turnCells (ts : List TurnD) : List Value := ts.flatMap fun t => [.int .i64 t.kind, .int .i64 t.slot, .int .i64 t.times]
/-- How the next line is read. -/
def nextF (ph r : Nat) : Value := .func (.func (if ph = 0 then 35 else if ph = 1 then 55 else 75)) #[.pointer (some ⟨r, 0, none⟩)] #[]
def rcells (s : ScriptD) (v f : Value) : Array Value := #[.int .i64 s.chans, .int .i64 s.actors, .int .i64 s.cap, .bool s.twin, .string (BT s.mod), v, f]
/-- At block r stands a reader, which has read s. -/
structure RAt (w : World) (B r ph : Nat) (s : ScriptD) (v : Value) : Prop where
  blk : w.heap[r]? = some (.cells (rcells s v (nextF ph r)) 85)
  own : w.ownsRow B 60 3 v s.turns.length (turnCells s.turns)
  apart : v.ownBlock ≠ some r
  low : B ≤ r

def At1 (r : Nat) (k : Nat) : Prop := k = r

/-- What a line's parser answers. -/
def RPost (w : World) (B r ph : Nat) (v : Value) (x : Except Int ScriptD) (e : Ending) (w' : World) : Prop :=
  (match x with
    | .error c => e = .returned (.int .i64 c)
    | .ok s' => e = .returned (.int .i64 0) ∧ RAt w' B r ph s' v) ∧ Turn (At1 r) w w'

theorem RPost.err {w w' : World} {B r ph : Nat} {v : Value} {x : Except Int ScriptD} {c : Int} (h : x = .error c) (t : Turn (At1 r) w w') : RPost w B r ph v x (.returned (.int .i64 c)) w' := ⟨by rw [h], t⟩
theorem RPost.good {w w' : World} {B r ph : Nat} {v : Value} {x : Except Int ScriptD} {s : ScriptD} (h : x = .ok s) (a : RAt w' B r ph s v) (t : Turn (At1 r) w w') : RPost w B r ph v x (.returned (.int .i64 0)) w' := ⟨by rw [h]; exact ⟨rfl, a⟩, t⟩

theorem frozen_blk {w : World} {b o : Nat} {cs : Array Value} {t : TypeId} (h : w.heap[b]? = some (.cells cs t)) : w.frozen? ⟨b, o, none⟩ = false := by
  unfold World.frozen?
  simp [h]

theorem Turn.under {S : Nat → Prop} {B : Nat} {a w w' : World} (t : Turn S w w') (h : Below B a w) (hS : ∀ k, S k → B ≤ k) (hB : B ≤ w.heap.size) : Below B a w' :=
  h.trans ⟨t.os, t.tape, t.output, t.size, fun k hk => t.block k (by omega) (fun hs => by have := hS k hs; omega)⟩

theorem Laid.below {a w : World} (h : Laid a) (t : Below a.heap.size a w) : Laid w := h.turn (Turn.of_below t)

theorem own_blk {w w' : World} {B : Nat} {e : TypeId} {sz : Nat} {v : Value} {n : Nat} {xs : List Value} (h : w.ownsRow B e sz v n xs) (t : ∀ k, v.ownBlock = some k → w'.heap[k]? = w.heap[k]?) : w'.ownsRow B e sz v n xs := by
  refine ⟨h.1, ?_⟩
  rcases h.2 with hn | ⟨g, cap, cur, rfl, hb, hgg, rest⟩
  · exact .inl hn
  · exact .inr ⟨g, cap, cur, rfl, hb, (t g rfl).trans hgg, rest⟩

theorem own_at1 {w w' : World} {B r : Nat} {e : TypeId} {sz : Nat} {v : Value} {n : Nat} {xs : List Value} (h : w.ownsRow B e sz v n xs) (t : Turn (At1 r) w w') (hv : v.ownBlock ≠ some r) : w'.ownsRow B e sz v n xs :=
  own_blk h (fun k hk => t.block k ((h.lt k hk).2) (fun e => hv (by rw [hk, show k = r from e])))

theorem numbers_none {v : Value} {L : List Bs} {w : World} (hn : numsL L = none) (hv : StrSl w v L) (hL : L.length ≤ 1000000) (hs : ∀ i, i < L.length → (L[i]?.getD []).length ≤ 1000000) (hl : Laid w) :
    Calls Tryz.prog 54 #[v] w fun e w' => ∃ v', e = .returned (.tuple #[v', .bool false]) ∧ Turn Nn w w' := by
  refine (numbers_any hv hL hs hl).mono ?_
  rintro e w' ⟨⟨v', he, _⟩, ht⟩
  rw [hn] at he
  exact ⟨v', he, ht⟩

theorem numbers_some {v : Value} {L : List Bs} {w : World} {N : List Nat} (hn : numsL L = some N) (hv : StrSl w v L) (hL : L.length ≤ 1000000) (hs : ∀ i, i < L.length → (L[i]?.getD []).length ≤ 1000000) (hl : Laid w) :
    Calls Tryz.prog 54 #[v] w fun e w' => ∃ pa cap, e = .returned (.tuple #[.slice pa N.length cap, .bool true]) ∧ w'.ownsRow w.heap.size 3 1 (.slice pa N.length cap) N.length (N.map natV) ∧ Turn Nn w w' := by
  refine (numbers_any hv hL hs hl).mono ?_
  rintro e w' ⟨⟨v', he, ho⟩, ht⟩
  rw [hn] at he
  have ho := ho N hn
  rcases ho.2 with ⟨rfl, h0⟩ | ⟨g, cap, cur, rfl, hx⟩
  · refine ⟨none, 0, ?_, ?_, ht⟩
    · rw [he, h0]; rfl
    · rw [h0] at ho ⊢; exact ho
  · exact ⟨_, _, he, ho, ht⟩

theorem Turn.wide {S : Nat → Prop} {a b : World} (h : Turn Nn a b) : Turn S a b := h.mono (fun _ h => h.elim)

theorem own3 {w : World} {B : Nat} {pa : Option Addr} {cap : Nat} {a b c : Nat} (h : w.ownsRow B 3 1 (.slice pa 3 cap) 3 ([a, b, c].map natV)) :
    ∃ g, B ≤ g ∧ pa = some ⟨g, 0, none⟩ ∧ w.cell? ⟨g, 0, none⟩ = some (.int .i64 a) ∧ w.cell? ⟨g, 1, none⟩ = some (.int .i64 b) ∧ w.cell? ⟨g, 2, none⟩ = some (.int .i64 c) := by
  rcases h.2 with ⟨_, h0⟩ | ⟨g, cap', cur, hv, hb, hg, hn, _, hsz, ht⟩
  · cases h0
  · simp only [Value.slice.injEq] at hv
    obtain ⟨rfl, _, rfl⟩ := hv
    have hh : ∀ i, i < 3 → cur[i]? = ([a, b, c].map natV)[i]? := fun i hi => by
      have h9 := congrArg (fun l => l[i]?) ht
      simp only [List.getElem?_take, Nat.mul_one, hi, if_true, Array.getElem?_toList] at h9
      exact h9
    exact ⟨g, hb, rfl, (cell_blk hg).trans (hh 0 (by omega)), (cell_blk hg).trans (hh 1 (by omega)), (cell_blk hg).trans (hh 2 (by omega))⟩

theorem StrSl.tail {w : World} {b o n cap : Nat} {k : Bs} {args : List Bs} (hc : ∀ i, i < n → w.cell? ⟨b, o + i, none⟩ = some (.string ⟨((k :: args)[i]?.getD []).toArray⟩)) (hn : n = args.length + 1) (hcap : n ≤ cap) :
    StrSl w (.slice (some ⟨b, o + 1, none⟩) (n - 1) (cap - 1)) args := by
  refine .inr ⟨b, o + 1, cap - 1, ?_, by omega, fun i hi => ?_⟩
  · rw [hn]; rfl
  · have := hc (i + 1) (by omega)
    rw [show o + 1 + i = o + (i + 1) by omega, this]
    rfl

theorem StrSl.cells {w w' : World} {b o n cap : Nat} {L : List Bs} (h : StrSl w (.slice (some ⟨b, o, none⟩) n cap) L) (t : ∀ i, w'.cell? ⟨b, i, none⟩ = w.cell? ⟨b, i, none⟩) : StrSl w' (.slice (some ⟨b, o, none⟩) n cap) L := by
  rcases h with h | ⟨b', o', cap', h1, h2, h3⟩
  · exact .inl h
  · cases h1
    exact .inr ⟨b, o, cap, rfl, h2, fun i hi => (t _).trans (h3 i hi)⟩

def setTwin (s : ScriptD) (tw : Bool) : ScriptD := { s with twin := tw }
def setConf (s : ScriptD) (a b c : Int) : ScriptD := { s with chans := a, actors := b, cap := c }

theorem machineS_false {s : ScriptD} {L : List Bs} {k : Bs} {args : List Bs} {tw : Bool} (ht : decide (L.length = 5 ∧ L[4]? = some wTwin) = tw) (hv : (if tw then L.take 4 else L) = k :: args) (h : ∀ a b c, numsL args = some [a, b, c] → k ≠ wMachine) : machineS s L = .error 5 := by
  unfold machineS
  simp only [ht, hv]
  split
  · rename_i a b c hx
    rw [if_neg (h _ _ _ hx)]
  · rfl

theorem machineS_arg {s : ScriptD} {L : List Bs} {args : List Bs} {tw : Bool} {a b c : Nat} (ht : decide (L.length = 5 ∧ L[4]? = some wTwin) = tw) (hv : (if tw then L.take 4 else L) = wMachine :: args) (h : numsL args = some [a, b, c]) (hc : configOk a b c = false) : machineS s L = .error 2 := by
  unfold machineS
  simp only [ht, hv, h, hc]
  rfl

theorem machineS_ok {s : ScriptD} {L : List Bs} {args : List Bs} {tw : Bool} {a b c : Nat} (ht : decide (L.length = 5 ∧ L[4]? = some wTwin) = tw) (hv : (if tw then L.take 4 else L) = wMachine :: args) (h : numsL args = some [a, b, c]) (hc : configOk a b c = true) : machineS s L = .ok (setConf (setTwin s tw) a b c) := by
  unfold machineS
  simp only [ht, hv, h, hc]
  rfl

theorem rset3 {w : World} {r ph : Nat} {s : ScriptD} {v : Value} (h : w.heap[r]? = some (.cells (rcells s v (nextF ph r)) 85)) (a b c : Int) :
    ((((w.setCell ⟨r, 0, none⟩ (.int .i64 a)).setCell ⟨r, 1, none⟩ (.int .i64 b)).setCell ⟨r, 2, none⟩ (.int .i64 c)).drew).heap[r]? = some (.cells (rcells (setConf s a b c) v (nextF ph r)) 85) :=
  heap_setCell_at (heap_setCell_at (heap_setCell_at h 0 _) 1 _) 2 _

def MForm (s : ScriptD) (L : List Bs) (tw : Bool) (k : Bs) (A : List Bs) : Prop :=
  ((∀ a b c, numsL A = some [a, b, c] → k ≠ wMachine) → machineS s L = .error 5) ∧
  (∀ a b c : Nat, k = wMachine → numsL A = some [a, b, c] → (configOk a b c = false → machineS s L = .error 2) ∧ (configOk a b c = true → machineS s L = .ok (setConf (setTwin s tw) a b c)))

theorem mform {s : ScriptD} {L : List Bs} {tw : Bool} {k : Bs} {A : List Bs} (ht : decide (L.length = 5 ∧ L[4]? = some wTwin) = tw) (hv : (if tw then L.take 4 else L) = k :: A) : MForm s L tw k A :=
  ⟨fun hh => machineS_false ht hv hh, fun a b c hk hn => by subst hk; exact ⟨fun hc => machineS_arg ht hv hn hc, fun hc => machineS_ok ht hv hn hc⟩⟩

set_option maxRecDepth 100000 in
set_option maxHeartbeats 4000000 in
theorem machine_tw {w0 w : World} {r : Nat} {s : ScriptD} {v : Value} {b o cap : Nat} {L : List Bs} (h0 : Laid w0) (hb0 : Below w0.heap.size w0 w) (h : RAt w w0.heap.size r 0 s v) (hc : ∀ i, i < 5 → w.cell? ⟨b, o + i, none⟩ = some (.string ⟨(L[i]?.getD []).toArray⟩)) (hbr : b ≠ r) (hL : L.length = 5) (hcap : 5 ≤ cap)
    (h4 : L[4]? = some wTwin) (hs : ∀ i, i < L.length → (L[i]?.getD []).length ≤ 1000000) :
    Calls Tryz.prog 35 #[.pointer (some ⟨r, 0, none⟩), .slice (some ⟨b, o, none⟩) 5 cap] w (RPost w w0.heap.size r 1 v (machineS s L)) := by
  have c4 : w.cell? ⟨b, o + 4, none⟩ = some (.string ⟨#[116, 119, 105, 110]⟩) := by rw [hc 4 (by omega), h4]; rfl
  have k3 := (cell_blk (o := 3) h.blk)
  have f3 := frozen_blk (o := 3) h.blk
  simp only [rcells, List.getElem?_toArray, List.getElem?_cons_succ, List.getElem?_cons_zero] at k3
  obtain ⟨k, x1, x2, x3, x4, rfl⟩ : ∃ k x1 x2 x3 x4, L = [k, x1, x2, x3, x4] := by
    match L, hL with
    | [k, x1, x2, x3, x4], _ => exact ⟨k, x1, x2, x3, x4, rfl⟩
  have htw : decide ([k, x1, x2, x3, x4].length = 5 ∧ [k, x1, x2, x3, x4][4]? = some wTwin) = true := by rw [decide_eq_true_iff]; exact ⟨rfl, h4⟩
  have HF := Lib.hid (mform (s := s) (k := k) (A := [x1, x2, x3]) htw rfl)
  have hsl : StrSl w (.slice (some ⟨b, o + 1, none⟩) (4 - 1) (cap - 1)) [x1, x2, x3] :=
    StrSl.tail (k := k) (n := 4) (fun i hi => by
      rw [hc i (by omega)]
      match i, hi with
      | 0, _ => rfl
      | 1, _ => rfl
      | 2, _ => rfl
      | 3, _ => rfl) rfl (by omega)
  have hx1 : (w.setCell ⟨r, 3, none⟩ (.bool true)).heap[r]? = some (.cells (rcells (setTwin s true) v (nextF 0 r)) 85) := heap_setCell_at h.blk 3 (.bool true)
  have HX := Lib.hid hx1
  have c00 := hc 0 (by omega)
  have hSa : ∀ i, i < [x1, x2, x3].length → ([x1, x2, x3][i]?.getD []).length ≤ 1000000 := fun i hi => by
    have := hs (i + 1) (by simp at hi; simp; omega)
    match i, hi with
    | 0, _ => exact this
    | 1, _ => exact this
    | 2, _ => exact this
  have HSA := Lib.hid hSa
  have HSL := Lib.hid hsl
  have HR0 := Lib.hid h
  have HB0 := Lib.hid hb0
  have HL0 := Lib.hid h0
  clear hc hL hs h4 h hx1 hb0 h0 htw hsl hSa
  go_enter Tryz.func35, Tryz.ntmps35
  go_wp2_with fail
  go_region
  have T1 := Lib.hid (((Turn.refl (At1 r) w).setCell (p := ⟨r, 3, none⟩) (.inl rfl) (.bool true)).drew)
  have t1 : ∀ i, (w.setCell ⟨r, 3, none⟩ (.bool true)).drew.cell? ⟨b, i, none⟩ = w.cell? ⟨b, i, none⟩ := fun i => by go_simp
  have c0 := (t1 (o + 0)).trans c00
  obtain ⟨w1, hw1⟩ : ∃ w1, (w.setCell ⟨r, 3, none⟩ (.bool true)).drew = w1 := ⟨_, rfl⟩
  have B1 : Hid (w1.heap[r]? = some (.cells (rcells (setTwin s true) v (nextF 0 r)) 85)) := by rw [← hw1]; exact Lib.hid HX.out
  have SL : Hid (StrSl w1 (.slice (some ⟨b, o + 1, none⟩) (4 - 1) (cap - 1)) [x1, x2, x3]) := by
    rw [← hw1]
    exact Lib.hid (HSL.out.cells (fun i => t1 i))
  rw [hw1] at T1 c0 ⊢
  clear HX hw1 t1
  have HA : Hid ([x1, x2, x3].length = 3) := Lib.hid rfl
  obtain ⟨A, hAe⟩ : ∃ A, [x1, x2, x3] = A := ⟨_, rfl⟩
  rw [hAe] at SL HSA HA HF
  clear hAe HSL c00 c4 k3 f3
  have L1 := Lib.hid (HL0.out.below (T1.out.under HB0.out (fun k hk => by cases hk; exact HR0.out.low) HB0.out.size))

  refine ?_
  cases hn : numsL A with
  | none =>
    have HR := Lib.hid (HF.out.1 (fun a b c h => by rw [hn] at h; cases h))
    have HNN := Lib.hid hn
    clear hn
    go_wp2_with fail
    refine (numbers_none HNN.out SL.out (by rw [HA.out]; omega) HSA.out L1.out).mono ?_
    rintro e w2 ⟨v', rfl, ht2⟩
    have T2 := Lib.hid (T1.out.trans ht2.wide)
    clear ht2 c0
    go_wp2
    go_ret
    exact RPost.err HR.out T2.out
  | some N =>
    have HNN := Lib.hid hn
    clear hn
    go_wp2_with fail
    refine (numbers_some HNN.out SL.out (by rw [HA.out]; omega) HSA.out L1.out).mono ?_
    rintro e w2 ⟨pa, cap2, rfl, hown, ht2⟩
    have T2 := Lib.hid (T1.out.trans ht2.wide)
    by_cases hN3 : N.length = 3
    · obtain ⟨a, c, d, rfl⟩ : ∃ a c d, N = [a, c, d] := by
        match N, hN3 with
        | [a, c, d], _ => exact ⟨a, c, d, rfl⟩
      obtain ⟨g, hgB, rfl, g0, g1, g2⟩ := own3 hown
      have d0 := cell_turn ht2 c0
      have hgr : ¬ g = r := by have := heap_lt B1.out; omega
      have hrg : ¬ r = g := fun e => hgr e.symm
      have B2 := Lib.hid ((ht2.block r (heap_lt B1.out) (fun h => h)).trans B1.out)
      clear hown ht2 hN3 c0 SL L1 B1 T1
      by_cases hk : k = wMachine
      · subst hk
        have e0 : w2.cell? ⟨b, o, none⟩ = some (.string ⟨#[109, 97, 99, 104, 105, 110, 101]⟩) := d0
        clear d0
        have f0 := frozen_blk (o := 0) B2.out
        have f1 := frozen_blk (o := 1) B2.out
        have f2 := frozen_blk (o := 2) B2.out
        have i0 := cell_blk (o := 0) B2.out
        have i1 := cell_blk (o := 1) B2.out
        have i2 := cell_blk (o := 2) B2.out
        simp only [rcells, List.getElem?_toArray, List.getElem?_cons_succ, List.getElem?_cons_zero] at i0 i1 i2
        go_wp2_with fail
        go_region
        have B3 := Lib.hid (rset3 B2.out a c d)
        have T3 := Lib.hid ((((T2.out.setCell (p := ⟨r, 0, none⟩) (.inl rfl) (.int .i64 a)).setCell (p := ⟨r, 1, none⟩) (.inl rfl) (.int .i64 c)).setCell (p := ⟨r, 2, none⟩) (.inl rfl) (.int .i64 d)).drew)
        obtain ⟨w3, hw3⟩ : ∃ w3, (((w2.setCell ⟨r, 0, none⟩ (.int .i64 a)).setCell ⟨r, 1, none⟩ (.int .i64 c)).setCell ⟨r, 2, none⟩ (.int .i64 d)).drew = w3 := ⟨_, rfl⟩
        rw [hw3] at B3 T3 ⊢
        clear hw3 i0 i1 i2 f0 f1 f2 g0 g1 g2 e0 B2 T2
        have i0 := cell_blk (o := 0) B3.out
        have i1 := cell_blk (o := 1) B3.out
        have i2 := cell_blk (o := 2) B3.out
        simp only [rcells, setConf, setTwin, List.getElem?_toArray, List.getElem?_cons_succ, List.getElem?_cons_zero] at i0 i1 i2
        cases hcf : configOk a c d with
        | false =>
          have HR := Lib.hid ((HF.out.2 a c d rfl HNN.out).1 hcf)
          have HC := Lib.hid (config_any a c d w3)
          rw [hcf] at HC
          clear hcf
          go_wp2_with fail
          refine HC.out.mono ?_
          rintro e w4 ⟨rfl, rfl⟩
          go_wp2
          go_ret
          exact RPost.err HR.out (T3.out.alloc _)
        | true =>
          have HR := Lib.hid ((HF.out.2 a c d rfl HNN.out).2 hcf)
          have HC := Lib.hid (config_any a c d w3)
          rw [hcf] at HC
          clear hcf
          go_wp2_with fail
          refine HC.out.mono ?_
          rintro e w4 ⟨rfl, hw4⟩
          have B4 : Hid (w4.heap[r]? = some (.cells (rcells (setConf (setTwin s true) a c d) v (nextF 0 r)) 85)) := by rw [hw4]; exact Lib.hid ((Below.heap_alloc _ _ _ (heap_lt B3.out)).trans B3.out)
          have T40 : Hid (Turn (At1 r) w w4) := by rw [hw4]; exact Lib.hid (T3.out.alloc _)
          have i6 := cell_blk (o := 6) B4.out
          have f6 := frozen_blk (o := 6) B4.out
          simp only [rcells, setConf, setTwin, List.getElem?_toArray, List.getElem?_cons_succ, List.getElem?_cons_zero] at i6
          clear hw4 i0 i1 i2 HC
          go_wp2
          go_ret
          have T4 : Turn (At1 r) w (w4.setCell ⟨r, 6, none⟩ (nextF 1 r)) := T40.out.setCell (p := ⟨r, 6, none⟩) (.inl rfl) _
          refine RPost.good HR.out ⟨?_, own_at1 HR0.out.own T4 HR0.out.apart, HR0.out.apart, HR0.out.low⟩ T4
          exact heap_setCell_at B4.out 6 (nextF 1 r)
      · have e0 : (k == [109, 97, 99, 104, 105, 110, 101]) = false := by rw [beq_eq_false_iff_ne]; exact hk
        have e1 : (k != [109, 97, 99, 104, 105, 110, 101]) = true := by rw [bne_iff_ne]; exact hk
        have HR := Lib.hid (HF.out.1 (fun _ _ _ _ => hk))
        have HNK := Lib.hid hk
        have e00 : w2.cell? ⟨b, o, none⟩ = some (.string ⟨k.toArray⟩) := d0
        clear hk d0
        go_wp2
        go_ret
        exact RPost.err HR.out T2.out
    · have HR := Lib.hid (HF.out.1 (fun a b c h => by rw [HNN.out] at h; cases h; exact absurd rfl hN3))
      have hN4 : ((N.length : Int) == 3) = false := by rw [beq_eq_false_iff_ne]; omega
      clear hown ht2 c0
      go_wp2
      go_ret
      exact RPost.err HR.out T2.out

set_option maxRecDepth 100000 in
set_option maxHeartbeats 4000000 in
theorem machine_n5 {w0 w : World} {r : Nat} {s : ScriptD} {v : Value} {b o n cap : Nat} {k : Bs} {A : List Bs} (h0 : Laid w0) (hb0 : Below w0.heap.size w0 w) (h : RAt w w0.heap.size r 0 s v) (htw0 : s.twin = false) (hn : n = A.length + 1) (hc : ∀ i, i < n → w.cell? ⟨b, o + i, none⟩ = some (.string ⟨((k :: A)[i]?.getD []).toArray⟩)) (hbr : b ≠ r) (hcap : n ≤ cap) (hn5 : n = 5) (h4 : A[3]?.getD [] ≠ wTwin)
    (hL : A.length ≤ 900000) (hs : ∀ i, i < A.length → (A[i]?.getD []).length ≤ 1000000) :
    Calls Tryz.prog 35 #[.pointer (some ⟨r, 0, none⟩), .slice (some ⟨b, o, none⟩) 5 cap] w (RPost w w0.heap.size r 1 v (machineS s (k :: A))) := by
  have htw : decide ((k :: A).length = 5 ∧ (k :: A)[4]? = some wTwin) = false := by
    rw [decide_eq_false_iff_not]
    rintro ⟨_, he⟩
    apply h4
    simp only [List.getElem?_cons_succ] at he
    rw [he]; rfl
  have HF := Lib.hid (mform (s := s) (k := k) (A := A) htw rfl)
  have c4 : w.cell? ⟨b, o + 4, none⟩ = some (.string ⟨(A[3]?.getD []).toArray⟩) := hc 4 (by omega)
  obtain ⟨x4, hx4⟩ : ∃ x4, A[3]?.getD [] = x4 := ⟨_, rfl⟩
  rw [hx4] at c4 h4
  have e4 : (x4 == [116, 119, 105, 110]) = false := by rw [beq_eq_false_iff_ne]; exact h4
  clear htw h4 hx4
  have SL : Hid (StrSl w (.slice (some ⟨b, o + 1, none⟩) (n - 1) (cap - 1)) A) := Lib.hid (StrSl.tail (k := k) (n := n) hc hn hcap)
  have c0 := hc 0 (by omega)
  have HSA := Lib.hid hs
  have HR0 := Lib.hid h
  have HB0 := Lib.hid hb0
  have HL0 := Lib.hid h0
  have T1 := Lib.hid (Turn.refl (At1 r) w)
  have B1 : Hid (w.heap[r]? = some (.cells (rcells (setTwin s false) v (nextF 0 r)) 85)) := Lib.hid (by have := h.blk; rw [show setTwin s false = s by unfold setTwin; rw [← htw0]]; exact this)
  have L1 := Lib.hid (HL0.out.below HB0.out)
  have HA := Lib.hid (Nat.le_refl A.length)
  have HLN := Lib.hid hL
  clear hc hs h hb0 h0 htw0 hL
  subst hn5
  have HN := Lib.hid hn
  clear hn

  go_enter Tryz.func35, Tryz.ntmps35
  go_wp2_with fail

  refine ?_
  cases hn : numsL A with
  | none =>
    have HR := Lib.hid (HF.out.1 (fun a b c h => by rw [hn] at h; cases h))
    have HNN := Lib.hid hn
    clear hn
    go_wp2_with fail
    refine (numbers_none HNN.out SL.out (by have := HLN.out; omega) HSA.out L1.out).mono ?_
    rintro e w2 ⟨v', rfl, ht2⟩
    have T2 := Lib.hid (T1.out.trans ht2.wide)
    clear ht2 c0
    go_wp2
    go_ret
    exact RPost.err HR.out T2.out
  | some N =>
    have HNN := Lib.hid hn
    clear hn
    go_wp2_with fail
    refine (numbers_some HNN.out SL.out (by have := HLN.out; omega) HSA.out L1.out).mono ?_
    rintro e w2 ⟨pa, cap2, rfl, hown, ht2⟩
    have T2 := Lib.hid (T1.out.trans ht2.wide)
    by_cases hN3 : N.length = 3
    · obtain ⟨a, c, d, rfl⟩ : ∃ a c d, N = [a, c, d] := by
        match N, hN3 with
        | [a, c, d], _ => exact ⟨a, c, d, rfl⟩
      obtain ⟨g, hgB, rfl, g0, g1, g2⟩ := own3 hown
      have d0 := cell_turn ht2 c0
      have hgr : ¬ g = r := by have := heap_lt B1.out; omega
      have hrg : ¬ r = g := fun e => hgr e.symm
      have B2 := Lib.hid ((ht2.block r (heap_lt B1.out) (fun h => h)).trans B1.out)
      clear hown ht2 hN3 c0 SL L1 B1 T1
      by_cases hk : k = wMachine
      · subst hk
        have e0 : w2.cell? ⟨b, o, none⟩ = some (.string ⟨#[109, 97, 99, 104, 105, 110, 101]⟩) := d0
        clear d0
        have f0 := frozen_blk (o := 0) B2.out
        have f1 := frozen_blk (o := 1) B2.out
        have f2 := frozen_blk (o := 2) B2.out
        have i0 := cell_blk (o := 0) B2.out
        have i1 := cell_blk (o := 1) B2.out
        have i2 := cell_blk (o := 2) B2.out
        simp only [rcells, List.getElem?_toArray, List.getElem?_cons_succ, List.getElem?_cons_zero] at i0 i1 i2
        go_wp2_with fail
        go_region
        have B3 := Lib.hid (rset3 B2.out a c d)
        have T3 := Lib.hid ((((T2.out.setCell (p := ⟨r, 0, none⟩) (.inl rfl) (.int .i64 a)).setCell (p := ⟨r, 1, none⟩) (.inl rfl) (.int .i64 c)).setCell (p := ⟨r, 2, none⟩) (.inl rfl) (.int .i64 d)).drew)
        obtain ⟨w3, hw3⟩ : ∃ w3, (((w2.setCell ⟨r, 0, none⟩ (.int .i64 a)).setCell ⟨r, 1, none⟩ (.int .i64 c)).setCell ⟨r, 2, none⟩ (.int .i64 d)).drew = w3 := ⟨_, rfl⟩
        rw [hw3] at B3 T3 ⊢
        clear hw3 i0 i1 i2 f0 f1 f2 g0 g1 g2 e0 B2 T2
        have i0 := cell_blk (o := 0) B3.out
        have i1 := cell_blk (o := 1) B3.out
        have i2 := cell_blk (o := 2) B3.out
        simp only [rcells, setConf, setTwin, List.getElem?_toArray, List.getElem?_cons_succ, List.getElem?_cons_zero] at i0 i1 i2
        cases hcf : configOk a c d with
        | false =>
          have HR := Lib.hid ((HF.out.2 a c d rfl HNN.out).1 hcf)
          have HC := Lib.hid (config_any a c d w3)
          rw [hcf] at HC
          clear hcf
          go_wp2_with fail
          refine HC.out.mono ?_
          rintro e w4 ⟨rfl, rfl⟩
          go_wp2
          go_ret
          exact RPost.err HR.out (T3.out.alloc _)
        | true =>
          have HR := Lib.hid ((HF.out.2 a c d rfl HNN.out).2 hcf)
          have HC := Lib.hid (config_any a c d w3)
          rw [hcf] at HC
          clear hcf
          go_wp2_with fail
          refine HC.out.mono ?_
          rintro e w4 ⟨rfl, hw4⟩
          have B4 : Hid (w4.heap[r]? = some (.cells (rcells (setConf (setTwin s false) a c d) v (nextF 0 r)) 85)) := by rw [hw4]; exact Lib.hid ((Below.heap_alloc _ _ _ (heap_lt B3.out)).trans B3.out)
          have T40 : Hid (Turn (At1 r) w w4) := by rw [hw4]; exact Lib.hid (T3.out.alloc _)
          have i6 := cell_blk (o := 6) B4.out
          have f6 := frozen_blk (o := 6) B4.out
          simp only [rcells, setConf, setTwin, List.getElem?_toArray, List.getElem?_cons_succ, List.getElem?_cons_zero] at i6
          clear hw4 i0 i1 i2 HC
          go_wp2
          go_ret
          have T4 : Turn (At1 r) w (w4.setCell ⟨r, 6, none⟩ (nextF 1 r)) := T40.out.setCell (p := ⟨r, 6, none⟩) (.inl rfl) _
          refine RPost.good HR.out ⟨?_, own_at1 HR0.out.own T4 HR0.out.apart, HR0.out.apart, HR0.out.low⟩ T4
          exact heap_setCell_at B4.out 6 (nextF 1 r)
      · have e0 : (k == [109, 97, 99, 104, 105, 110, 101]) = false := by rw [beq_eq_false_iff_ne]; exact hk
        have e1 : (k != [109, 97, 99, 104, 105, 110, 101]) = true := by rw [bne_iff_ne]; exact hk
        have HR := Lib.hid (HF.out.1 (fun _ _ _ _ => hk))
        have HNK := Lib.hid hk
        have e00 : w2.cell? ⟨b, o, none⟩ = some (.string ⟨k.toArray⟩) := d0
        clear hk d0
        go_wp2
        go_ret
        exact RPost.err HR.out T2.out
    · have HR := Lib.hid (HF.out.1 (fun a b c h => by rw [HNN.out] at h; cases h; exact absurd rfl hN3))
      have hN4 : ((N.length : Int) == 3) = false := by rw [beq_eq_false_iff_ne]; omega
      clear hown ht2 c0
      go_wp2
      go_ret
      exact RPost.err HR.out T2.out

set_option maxRecDepth 100000 in
set_option maxHeartbeats 4000000 in
theorem machine_nn {w0 w : World} {r : Nat} {s : ScriptD} {v : Value} {b o n cap : Nat} {k : Bs} {A : List Bs} (h0 : Laid w0) (hb0 : Below w0.heap.size w0 w) (h : RAt w w0.heap.size r 0 s v) (htw0 : s.twin = false) (hn : n = A.length + 1) (hc : ∀ i, i < n → w.cell? ⟨b, o + i, none⟩ = some (.string ⟨((k :: A)[i]?.getD []).toArray⟩)) (hbr : b ≠ r) (hcap : n ≤ cap) (hn5 : n ≠ 5) (hc2 : 2 ≤ cap)
    (hL : A.length ≤ 900000) (hs : ∀ i, i < A.length → (A[i]?.getD []).length ≤ 1000000) :
    Calls Tryz.prog 35 #[.pointer (some ⟨r, 0, none⟩), .slice (some ⟨b, o, none⟩) n cap] w (RPost w w0.heap.size r 1 v (machineS s (k :: A))) := by
  have htw : decide ((k :: A).length = 5 ∧ (k :: A)[4]? = some wTwin) = false := by
    rw [decide_eq_false_iff_not]
    rintro ⟨he, _⟩
    rw [List.length_cons] at he
    omega
  have HF := Lib.hid (mform (s := s) (k := k) (A := A) htw rfl)
  clear htw
  have SL : Hid (StrSl w (.slice (some ⟨b, o + 1, none⟩) (n - 1) (cap - 1)) A) := Lib.hid (StrSl.tail (k := k) (n := n) hc hn hcap)
  have c0 := hc 0 (by omega)
  have HSA := Lib.hid hs
  have HR0 := Lib.hid h
  have HB0 := Lib.hid hb0
  have HL0 := Lib.hid h0
  have T1 := Lib.hid (Turn.refl (At1 r) w)
  have B1 : Hid (w.heap[r]? = some (.cells (rcells (setTwin s false) v (nextF 0 r)) 85)) := Lib.hid (by have := h.blk; rw [show setTwin s false = s by unfold setTwin; rw [← htw0]]; exact this)
  have L1 := Lib.hid (HL0.out.below HB0.out)
  have HA := Lib.hid (Nat.le_refl A.length)
  have HLN := Lib.hid hL
  clear hc hs h hb0 h0 htw0 hL
  have hn5b : ((n : Int) == 5) = false := by rw [beq_eq_false_iff_ne]; omega
  have hpos : (1 : Int) ≤ (n : Int) := by omega
  have hpos2 : (1 : Int) < (cap : Int) := by omega
  have HN := Lib.hid hn
  clear hn

  go_enter Tryz.func35, Tryz.ntmps35
  go_wp2_with fail

  refine ?_
  cases hn : numsL A with
  | none =>
    have HR := Lib.hid (HF.out.1 (fun a b c h => by rw [hn] at h; cases h))
    have HNN := Lib.hid hn
    clear hn
    go_wp2_with fail
    refine (numbers_none HNN.out SL.out (by have := HLN.out; omega) HSA.out L1.out).mono ?_
    rintro e w2 ⟨v', rfl, ht2⟩
    have T2 := Lib.hid (T1.out.trans ht2.wide)
    clear ht2 c0
    go_wp2
    go_ret
    exact RPost.err HR.out T2.out
  | some N =>
    have HNN := Lib.hid hn
    clear hn
    go_wp2_with fail
    refine (numbers_some HNN.out SL.out (by have := HLN.out; omega) HSA.out L1.out).mono ?_
    rintro e w2 ⟨pa, cap2, rfl, hown, ht2⟩
    have T2 := Lib.hid (T1.out.trans ht2.wide)
    by_cases hN3 : N.length = 3
    · obtain ⟨a, c, d, rfl⟩ : ∃ a c d, N = [a, c, d] := by
        match N, hN3 with
        | [a, c, d], _ => exact ⟨a, c, d, rfl⟩
      obtain ⟨g, hgB, rfl, g0, g1, g2⟩ := own3 hown
      have d0 := cell_turn ht2 c0
      have hgr : ¬ g = r := by have := heap_lt B1.out; omega
      have hrg : ¬ r = g := fun e => hgr e.symm
      have B2 := Lib.hid ((ht2.block r (heap_lt B1.out) (fun h => h)).trans B1.out)
      clear hown ht2 hN3 c0 SL L1 B1 T1
      by_cases hk : k = wMachine
      · subst hk
        have e0 : w2.cell? ⟨b, o, none⟩ = some (.string ⟨#[109, 97, 99, 104, 105, 110, 101]⟩) := d0
        clear d0
        have f0 := frozen_blk (o := 0) B2.out
        have f1 := frozen_blk (o := 1) B2.out
        have f2 := frozen_blk (o := 2) B2.out
        have i0 := cell_blk (o := 0) B2.out
        have i1 := cell_blk (o := 1) B2.out
        have i2 := cell_blk (o := 2) B2.out
        simp only [rcells, List.getElem?_toArray, List.getElem?_cons_succ, List.getElem?_cons_zero] at i0 i1 i2
        go_wp2_with fail
        go_region
        have B3 := Lib.hid (rset3 B2.out a c d)
        have T3 := Lib.hid ((((T2.out.setCell (p := ⟨r, 0, none⟩) (.inl rfl) (.int .i64 a)).setCell (p := ⟨r, 1, none⟩) (.inl rfl) (.int .i64 c)).setCell (p := ⟨r, 2, none⟩) (.inl rfl) (.int .i64 d)).drew)
        obtain ⟨w3, hw3⟩ : ∃ w3, (((w2.setCell ⟨r, 0, none⟩ (.int .i64 a)).setCell ⟨r, 1, none⟩ (.int .i64 c)).setCell ⟨r, 2, none⟩ (.int .i64 d)).drew = w3 := ⟨_, rfl⟩
        rw [hw3] at B3 T3 ⊢
        clear hw3 i0 i1 i2 f0 f1 f2 g0 g1 g2 e0 B2 T2
        have i0 := cell_blk (o := 0) B3.out
        have i1 := cell_blk (o := 1) B3.out
        have i2 := cell_blk (o := 2) B3.out
        simp only [rcells, setConf, setTwin, List.getElem?_toArray, List.getElem?_cons_succ, List.getElem?_cons_zero] at i0 i1 i2
        cases hcf : configOk a c d with
        | false =>
          have HR := Lib.hid ((HF.out.2 a c d rfl HNN.out).1 hcf)
          have HC := Lib.hid (config_any a c d w3)
          rw [hcf] at HC
          clear hcf
          go_wp2_with fail
          refine HC.out.mono ?_
          rintro e w4 ⟨rfl, rfl⟩
          go_wp2
          go_ret
          exact RPost.err HR.out (T3.out.alloc _)
        | true =>
          have HR := Lib.hid ((HF.out.2 a c d rfl HNN.out).2 hcf)
          have HC := Lib.hid (config_any a c d w3)
          rw [hcf] at HC
          clear hcf
          go_wp2_with fail
          refine HC.out.mono ?_
          rintro e w4 ⟨rfl, hw4⟩
          have B4 : Hid (w4.heap[r]? = some (.cells (rcells (setConf (setTwin s false) a c d) v (nextF 0 r)) 85)) := by rw [hw4]; exact Lib.hid ((Below.heap_alloc _ _ _ (heap_lt B3.out)).trans B3.out)
          have T40 : Hid (Turn (At1 r) w w4) := by rw [hw4]; exact Lib.hid (T3.out.alloc _)
          have i6 := cell_blk (o := 6) B4.out
          have f6 := frozen_blk (o := 6) B4.out
          simp only [rcells, setConf, setTwin, List.getElem?_toArray, List.getElem?_cons_succ, List.getElem?_cons_zero] at i6
          clear hw4 i0 i1 i2 HC
          go_wp2
          go_ret
          have T4 : Turn (At1 r) w (w4.setCell ⟨r, 6, none⟩ (nextF 1 r)) := T40.out.setCell (p := ⟨r, 6, none⟩) (.inl rfl) _
          refine RPost.good HR.out ⟨?_, own_at1 HR0.out.own T4 HR0.out.apart, HR0.out.apart, HR0.out.low⟩ T4
          exact heap_setCell_at B4.out 6 (nextF 1 r)
      · have e0 : (k == [109, 97, 99, 104, 105, 110, 101]) = false := by rw [beq_eq_false_iff_ne]; exact hk
        have e1 : (k != [109, 97, 99, 104, 105, 110, 101]) = true := by rw [bne_iff_ne]; exact hk
        have HR := Lib.hid (HF.out.1 (fun _ _ _ _ => hk))
        have HNK := Lib.hid hk
        have e00 : w2.cell? ⟨b, o, none⟩ = some (.string ⟨k.toArray⟩) := d0
        clear hk d0
        go_wp2
        go_ret
        exact RPost.err HR.out T2.out
    · have HR := Lib.hid (HF.out.1 (fun a b c h => by rw [HNN.out] at h; cases h; exact absurd rfl hN3))
      have hN4 : ((N.length : Int) == 3) = false := by rw [beq_eq_false_iff_ne]; omega
      clear hown ht2 c0
      go_wp2
      go_ret
      exact RPost.err HR.out T2.out

set_option maxRecDepth 100000 in
set_option maxHeartbeats 4000000 in
theorem machine_n1 {w0 w : World} {r : Nat} {s : ScriptD} {v : Value} {b o n cap : Nat} {k : Bs} {A : List Bs} (h0 : Laid w0) (hb0 : Below w0.heap.size w0 w) (h : RAt w w0.heap.size r 0 s v) (htw0 : s.twin = false) (hn : n = A.length + 1) (hc : ∀ i, i < n → w.cell? ⟨b, o + i, none⟩ = some (.string ⟨((k :: A)[i]?.getD []).toArray⟩)) (hbr : b ≠ r) (hcap : n ≤ cap) (hn1 : n = 1 ∧ cap = 1)
    (hL : A.length ≤ 900000) (hs : ∀ i, i < A.length → (A[i]?.getD []).length ≤ 1000000) :
    Calls Tryz.prog 35 #[.pointer (some ⟨r, 0, none⟩), .slice (some ⟨b, o, none⟩) 1 1] w (RPost w w0.heap.size r 1 v (machineS s (k :: A))) := by
  have htw : decide ((k :: A).length = 5 ∧ (k :: A)[4]? = some wTwin) = false := by
    rw [decide_eq_false_iff_not]
    rintro ⟨he, _⟩
    rw [List.length_cons] at he
    omega
  have HF := Lib.hid (mform (s := s) (k := k) (A := A) htw rfl)
  clear htw
  have SL : Hid (StrSl w (.slice (some ⟨b, o, none⟩) 0 0) A) := Lib.hid (.inl ⟨List.eq_nil_of_length_eq_zero (by omega), _, _, rfl⟩)
  have c0 := hc 0 (by omega)
  have HSA := Lib.hid hs
  have HR0 := Lib.hid h
  have HB0 := Lib.hid hb0
  have HL0 := Lib.hid h0
  have T1 := Lib.hid (Turn.refl (At1 r) w)
  have B1 : Hid (w.heap[r]? = some (.cells (rcells (setTwin s false) v (nextF 0 r)) 85)) := Lib.hid (by have := h.blk; rw [show setTwin s false = s by unfold setTwin; rw [← htw0]]; exact this)
  have L1 := Lib.hid (HL0.out.below HB0.out)
  have HA := Lib.hid (Nat.le_refl A.length)
  have HLN := Lib.hid hL
  clear hc hs h hb0 h0 htw0 hL
  obtain ⟨rfl, rfl⟩ := hn1
  have HN := Lib.hid hn
  clear hn hcap

  go_enter Tryz.func35, Tryz.ntmps35
  go_wp2_with fail

  refine ?_
  cases hn : numsL A with
  | none =>
    have HR := Lib.hid (HF.out.1 (fun a b c h => by rw [hn] at h; cases h))
    have HNN := Lib.hid hn
    clear hn
    go_wp2_with fail
    refine (numbers_none HNN.out SL.out (by have := HLN.out; omega) HSA.out L1.out).mono ?_
    rintro e w2 ⟨v', rfl, ht2⟩
    have T2 := Lib.hid (T1.out.trans ht2.wide)
    clear ht2 c0
    go_wp2
    go_ret
    exact RPost.err HR.out T2.out
  | some N =>
    have HNN := Lib.hid hn
    clear hn
    go_wp2_with fail
    refine (numbers_some HNN.out SL.out (by have := HLN.out; omega) HSA.out L1.out).mono ?_
    rintro e w2 ⟨pa, cap2, rfl, hown, ht2⟩
    have T2 := Lib.hid (T1.out.trans ht2.wide)
    by_cases hN3 : N.length = 3
    · obtain ⟨a, c, d, rfl⟩ : ∃ a c d, N = [a, c, d] := by
        match N, hN3 with
        | [a, c, d], _ => exact ⟨a, c, d, rfl⟩
      obtain ⟨g, hgB, rfl, g0, g1, g2⟩ := own3 hown
      have d0 := cell_turn ht2 c0
      have hgr : ¬ g = r := by have := heap_lt B1.out; omega
      have hrg : ¬ r = g := fun e => hgr e.symm
      have B2 := Lib.hid ((ht2.block r (heap_lt B1.out) (fun h => h)).trans B1.out)
      clear hown ht2 hN3 c0 SL L1 B1 T1
      by_cases hk : k = wMachine
      · subst hk
        have e0 : w2.cell? ⟨b, o, none⟩ = some (.string ⟨#[109, 97, 99, 104, 105, 110, 101]⟩) := d0
        clear d0
        have f0 := frozen_blk (o := 0) B2.out
        have f1 := frozen_blk (o := 1) B2.out
        have f2 := frozen_blk (o := 2) B2.out
        have i0 := cell_blk (o := 0) B2.out
        have i1 := cell_blk (o := 1) B2.out
        have i2 := cell_blk (o := 2) B2.out
        simp only [rcells, List.getElem?_toArray, List.getElem?_cons_succ, List.getElem?_cons_zero] at i0 i1 i2
        go_wp2_with fail
        go_region
        have B3 := Lib.hid (rset3 B2.out a c d)
        have T3 := Lib.hid ((((T2.out.setCell (p := ⟨r, 0, none⟩) (.inl rfl) (.int .i64 a)).setCell (p := ⟨r, 1, none⟩) (.inl rfl) (.int .i64 c)).setCell (p := ⟨r, 2, none⟩) (.inl rfl) (.int .i64 d)).drew)
        obtain ⟨w3, hw3⟩ : ∃ w3, (((w2.setCell ⟨r, 0, none⟩ (.int .i64 a)).setCell ⟨r, 1, none⟩ (.int .i64 c)).setCell ⟨r, 2, none⟩ (.int .i64 d)).drew = w3 := ⟨_, rfl⟩
        rw [hw3] at B3 T3 ⊢
        clear hw3 i0 i1 i2 f0 f1 f2 g0 g1 g2 e0 B2 T2
        have i0 := cell_blk (o := 0) B3.out
        have i1 := cell_blk (o := 1) B3.out
        have i2 := cell_blk (o := 2) B3.out
        simp only [rcells, setConf, setTwin, List.getElem?_toArray, List.getElem?_cons_succ, List.getElem?_cons_zero] at i0 i1 i2
        cases hcf : configOk a c d with
        | false =>
          have HR := Lib.hid ((HF.out.2 a c d rfl HNN.out).1 hcf)
          have HC := Lib.hid (config_any a c d w3)
          rw [hcf] at HC
          clear hcf
          go_wp2_with fail
          refine HC.out.mono ?_
          rintro e w4 ⟨rfl, rfl⟩
          go_wp2
          go_ret
          exact RPost.err HR.out (T3.out.alloc _)
        | true =>
          have HR := Lib.hid ((HF.out.2 a c d rfl HNN.out).2 hcf)
          have HC := Lib.hid (config_any a c d w3)
          rw [hcf] at HC
          clear hcf
          go_wp2_with fail
          refine HC.out.mono ?_
          rintro e w4 ⟨rfl, hw4⟩
          have B4 : Hid (w4.heap[r]? = some (.cells (rcells (setConf (setTwin s false) a c d) v (nextF 0 r)) 85)) := by rw [hw4]; exact Lib.hid ((Below.heap_alloc _ _ _ (heap_lt B3.out)).trans B3.out)
          have T40 : Hid (Turn (At1 r) w w4) := by rw [hw4]; exact Lib.hid (T3.out.alloc _)
          have i6 := cell_blk (o := 6) B4.out
          have f6 := frozen_blk (o := 6) B4.out
          simp only [rcells, setConf, setTwin, List.getElem?_toArray, List.getElem?_cons_succ, List.getElem?_cons_zero] at i6
          clear hw4 i0 i1 i2 HC
          go_wp2
          go_ret
          have T4 : Turn (At1 r) w (w4.setCell ⟨r, 6, none⟩ (nextF 1 r)) := T40.out.setCell (p := ⟨r, 6, none⟩) (.inl rfl) _
          refine RPost.good HR.out ⟨?_, own_at1 HR0.out.own T4 HR0.out.apart, HR0.out.apart, HR0.out.low⟩ T4
          exact heap_setCell_at B4.out 6 (nextF 1 r)
      · have e0 : (k == [109, 97, 99, 104, 105, 110, 101]) = false := by rw [beq_eq_false_iff_ne]; exact hk
        have e1 : (k != [109, 97, 99, 104, 105, 110, 101]) = true := by rw [bne_iff_ne]; exact hk
        have HR := Lib.hid (HF.out.1 (fun _ _ _ _ => hk))
        have HNK := Lib.hid hk
        have e00 : w2.cell? ⟨b, o, none⟩ = some (.string ⟨k.toArray⟩) := d0
        clear hk d0
        go_wp2
        go_ret
        exact RPost.err HR.out T2.out
    · have HR := Lib.hid (HF.out.1 (fun a b c h => by rw [HNN.out] at h; cases h; exact absurd rfl hN3))
      have hN4 : ((N.length : Int) == 3) = false := by rw [beq_eq_false_iff_ne]; omega
      clear hown ht2 c0
      go_wp2
      go_ret
      exact RPost.err HR.out T2.out

/-- The first line. -/
theorem machine_any {w0 w : World} {r : Nat} {s : ScriptD} {v wv : Value} {L : List Bs} (h0 : Laid w0) (hb0 : Below w0.heap.size w0 w) (h : RAt w w0.heap.size r 0 s v) (htw0 : s.twin = false) (hw : StrSl w wv L) (hL : L ≠ []) (hne : ∀ a n c, wv = .slice (some a) n c → a.block ≠ r)
    (hLl : L.length ≤ 900000) (hs : ∀ i, i < L.length → (L[i]?.getD []).length ≤ 1000000) :
    Calls Tryz.prog 35 #[.pointer (some ⟨r, 0, none⟩), wv] w (RPost w w0.heap.size r 1 v (machineS s L)) := by
  rcases hw with ⟨rfl, _⟩ | ⟨b, o, cap, rfl, hcap, hc⟩
  · exact absurd rfl hL
  · have hbr := hne _ _ _ rfl
    obtain ⟨k, A, rfl⟩ : ∃ k A, L = k :: A := by
      cases L with
      | nil => exact absurd rfl hL
      | cons k A => exact ⟨k, A, rfl⟩
    have hA : A.length ≤ 900000 := by simp at hLl; omega
    have hsA : ∀ i, i < A.length → (A[i]?.getD []).length ≤ 1000000 := fun i hi => hs (i + 1) (by simp; omega)
    by_cases h5 : (k :: A).length = 5
    · have hc5 : 5 ≤ cap := by omega
      by_cases h4 : (k :: A)[4]? = some wTwin
      · have := machine_tw (cap := cap) h0 hb0 h (fun i hi => hc i (by omega)) hbr h5 hc5 h4 hs
        rw [h5]; exact this
      · have h4' : A[3]?.getD [] ≠ wTwin := by
          intro e
          apply h4
          rw [List.length_cons] at h5
          rw [List.getElem?_cons_succ, List.getElem?_eq_getElem (by omega)]
          rw [List.getElem?_eq_getElem (by omega)] at e
          exact congrArg some e
        have := machine_n5 (n := 5) (cap := cap) h0 hb0 h htw0 (by rw [List.length_cons] at h5; omega) (fun i hi => hc i (by omega)) hbr hc5 rfl h4' hA hsA
        rw [h5]; exact this
    · by_cases h1 : cap = 1
      · have hA0 : A.length = 0 := by rw [List.length_cons] at hcap; omega
        have := machine_n1 (n := 1) (cap := 1) h0 hb0 h htw0 (by omega) (fun i hi => hc i (by rw [List.length_cons]; omega)) hbr (by omega) ⟨rfl, rfl⟩ hA hsA
        rw [h1, show (k :: A).length = 1 by rw [List.length_cons]; omega]; exact this
      · exact machine_nn h0 hb0 h htw0 (by rw [List.length_cons]) hc hbr hcap h5 (by rw [List.length_cons] at hcap; omega) hA hsA
end Go.Proofs.YtjnllclpdllceaaGreatDoor
