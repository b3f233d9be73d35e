/- The document's reading: a turn's line. Printed by gen_mf.py. The document's reading: the lines behind the first. Printed by gen_mg.py. The document's reading: the whole text. Printed by gen_mh.py. -/
import Derived.Test.YtjnllclpdllceaaGreatDoorMe
import Derived.Test.YtjnllclpdllceaaGreatDoorVk
import Derived.Test.YtjnllclpdllceaaGreatDoorPb
namespace Go.Proofs.YtjnllclpdllceaaGreatDoor
set_option linter.unusedSimpArgs false
set_option linter.unusedVariables false
open Go.RowKit Go.Shelf


def chkT (t : TurnD) : Except Int TurnD := if turnOk t = true then .ok t else .error 2
def readT (L : List Bs) : Except Int TurnD := match L with
  | [] => .error 5
  | k :: args =>
    if k = wPick then (match refNums (k :: args) 2 with | some [a, b] => chkT ⟨0, a, b⟩ | _ => .error 5)
    else if k = wRound then (match refNums (k :: args) 1 with | some [b] => chkT ⟨1, 0, b⟩ | _ => .error 5)
    else if k = wShow then (match refNums (k :: args) 0 with | some [] => chkT ⟨2, 0, 0⟩ | _ => .error 5)
    else if k = wRows then (match refNums (k :: args) 0 with | some [] => chkT ⟨3, 0, 0⟩ | _ => .error 5)
    else .error 5

theorem readT_pick (A : List Bs) : readT (wPick :: A) = match refNums (wPick :: A) 2 with | some [a, b] => chkT ⟨0, a, b⟩ | _ => .error 5 := by
  unfold readT; exact if_pos rfl
theorem readT_round (A : List Bs) : readT (wRound :: A) = match refNums (wRound :: A) 1 with | some [b] => chkT ⟨1, 0, b⟩ | _ => .error 5 := by
  unfold readT; exact (if_neg (by decide)).trans (if_pos rfl)
theorem readT_show (A : List Bs) : readT (wShow :: A) = match refNums (wShow :: A) 0 with | some [] => chkT ⟨2, 0, 0⟩ | _ => .error 5 := by
  unfold readT; exact (if_neg (by decide)).trans ((if_neg (by decide)).trans (if_pos rfl))
theorem readT_rows (A : List Bs) : readT (wRows :: A) = match refNums (wRows :: A) 0 with | some [] => chkT ⟨3, 0, 0⟩ | _ => .error 5 := by
  unfold readT; exact (if_neg (by decide)).trans ((if_neg (by decide)).trans ((if_neg (by decide)).trans (if_pos rfl)))

theorem refNums_cons (k : Bs) (A : List Bs) (n : Nat) : refNums (k :: A) n = if A.length = n then numsL A else none := by
  unfold refNums
  simp only [List.length_cons, List.drop_succ_cons, List.drop_zero, Nat.add_right_cancel_iff]

theorem turnS_read (s : ScriptD) (L : List Bs) : turnS s L = match readT L with
    | .error e => .error e
    | .ok t => if 4096 ≤ s.turns.length then .error 4 else .ok { s with turns := s.turns ++ [t] } := by
  have hadd : ∀ t, addTurn s t = match chkT t with | .error e => .error e | .ok t => if 4096 ≤ s.turns.length then .error 4 else .ok { s with turns := s.turns ++ [t] } := by
    intro t
    unfold addTurn chkT
    cases h : turnOk t
    · rfl
    · simp
  cases L with
  | nil => rfl
  | cons k A =>
    unfold turnS readT
    simp only [refNums_cons]
    cases hn : numsL A with
    | none =>
      simp only
      repeat' split
      all_goals first | rfl | (rename_i h _; simp at h) | skip
      all_goals (try simp_all)
    | some l =>
      have hl := numsL_length hn
      rw [← hl]
      simp only
      split
      · match l with
        | [a, b] => simp [hadd]
        | [] => simp
        | [a] => simp
        | a :: b :: c :: r => simp
      · split
        · match l with
          | [b] => simp [hadd]
          | [] => simp
          | a :: b :: r => simp
        · split
          · match l with
            | [] => simp [hadd]
            | a :: r => simp
          · split
            · match l with
              | [] => simp [hadd]
              | a :: r => simp
            · rfl

/-- What the document's reading of a turn's line answers. -/
def RDP (w : World) (L : List Bs) (e : Ending) (w' : World) : Prop :=
  (match readT L with
    | .error c => e = .returned (.tuple #[.agg #[.int .i64 0, .int .i64 0, .int .i64 0], .int .i64 c]) ∧ c ≠ 0
    | .ok t => e = .returned (.tuple #[.agg #[.int .i64 t.kind, .int .i64 t.slot, .int .i64 t.times], .int .i64 0])) ∧ Turn Nn w w'
theorem RDP.err {w w' : World} {L : List Bs} {c : Int} (h : readT L = .error c) (hc : c ≠ 0) (t : Turn Nn w w') : RDP w L (.returned (.tuple #[.agg #[.int .i64 0, .int .i64 0, .int .i64 0], .int .i64 c])) w' := ⟨by rw [h]; exact ⟨rfl, hc⟩, t⟩
theorem RDP.good {w w' : World} {L : List Bs} {k s t : Int} (h : readT L = .ok ⟨k, s, t⟩) (tt : Turn Nn w w') : RDP w L (.returned (.tuple #[.agg #[.int .i64 k, .int .i64 s, .int .i64 t], .int .i64 0])) w' := ⟨by rw [h], tt⟩

theorem cells3m {W : World} {B : Nat} {x0 x1 x2 : Value} {t1 : TypeId} (h1 : W.heap[B]? = some (.cells #[x0, x1, x2] t1)) :
    W.cell? ⟨B, 0, none⟩ = some x0 ∧ W.cell? ⟨B, 1, none⟩ = some x1 ∧ W.cell? ⟨B, 2, none⟩ = some x2 :=
  ⟨by rw [cell_blk h1]; rfl, by rw [cell_blk h1]; rfl, by rw [cell_blk h1]; rfl⟩
theorem read_res {W : World} {B : Nat} {tmps : Array Value} {c0 c1 c2 : Value} {z : Int} (h2 : tmps[2]?.getD undef = .pointer (some ⟨B, 0, none⟩)) (h3 : tmps[3]?.getD undef = .int .i64 z) (hb : W.heap[B]? = some (.cells #[c0, c1, c2] 60)) :
    (results Tryz.f72 tmps).run Tryz.prog W = .ok (.tuple #[.agg #[c0, c1, c2], .int .i64 z]) W := by
  obtain ⟨d0, d1, d2⟩ := cells3m hb
  simp only [results, show Tryz.f72.results = #[.cell 2 60, .tmp 3] from rfl]
  go_simp
theorem store3 {W : World} {B : Nat} {z0 z1 z2 : Value} {ty : TypeId} (h : W.heap[B]? = some (.cells #[z0, z1, z2] ty)) (x0 x1 x2 : Value) :
    (((W.setCell ⟨B, 0, none⟩ x0).setCell ⟨B, 1, none⟩ x1).setCell ⟨B, 2, none⟩ x2).heap[B]? = some (.cells #[x0, x1, x2] ty) :=
  heap_setCell_at (heap_setCell_at (heap_setCell_at h 0 x0) 1 x1) 2 x2
theorem store3_turn {w W : World} {B : Nat} (t : Turn Nn w W) (hB : w.heap.size ≤ B) (x y z : Value) : Turn Nn w (((W.setCell ⟨B, 0, none⟩ x).setCell ⟨B, 1, none⟩ y).setCell ⟨B, 2, none⟩ z) :=
  ((t.setCell (.inr hB) _).setCell (.inr hB) _).setCell (.inr hB) _
theorem store3_oth {w : World} {r b : Nat} {ob : Obj} (h : w.heap[b]? = some ob) (hne : b ≠ r) (x y z : Value) :
    (((w.setCell ⟨r, 0, none⟩ x).setCell ⟨r, 1, none⟩ y).setCell ⟨r, 2, none⟩ z).heap[b]? = some ob := blk_set (blk_set (blk_set h hne) hne) hne

set_option maxRecDepth 100000 in
set_option maxHeartbeats 8000000 in
theorem read_pick {k : Bs} {A : List Bs} {b o n cap : Nat} {w : World} (hc : ∀ i, i < n → w.cell? ⟨b, o + i, none⟩ = some (.string ⟨((k :: A)[i]?.getD []).toArray⟩)) (hn : n = (k :: A).length) (hcap : n ≤ cap) (hL : n ≤ 1000000) (hs : ∀ i, i < n → ((k :: A)[i]?.getD []).length ≤ 1000000) (hk : k = wPick) :
    Calls Tryz.prog 72 #[.slice (some ⟨b, o, none⟩) n cap] w (RDP w (k :: A)) := by
  obtain ⟨w1, hw1⟩ : ∃ w1, (w.alloc (.cells #[.int .i64 0, .int .i64 0, .int .i64 0] 60)).alloc (.cells #[.int .i64 0, .int .i64 0, .int .i64 0] 60) = w1 := ⟨_, rfl⟩
  obtain ⟨r1, x1, t1⟩ := alloc2 hw1
  have hpos : (0 : Int) < (n : Int) := by rw [List.length_cons] at hn; omega
  have SL : Hid (StrSl w1 (.slice (some ⟨b, o, none⟩) n cap) (k :: A)) := Lib.hid (.inr ⟨b, o, cap, by rw [hn], by rw [← hn]; exact hcap, fun i hi => cell_turn t1 (hc i (by rw [hn]; exact hi))⟩)
  have HSS : Hid (∀ i, i < (k :: A).length → ((k :: A)[i]?.getD []).length ≤ 1000000) := Lib.hid (fun i hi => hs i (by rw [hn]; exact hi))
  have HLA : Hid ((k :: A).length ≤ 1000000) := Lib.hid (by rw [← hn]; exact hL)
  have c0 : w1.cell? ⟨b, o, none⟩ = some (.string ⟨k.toArray⟩) := cell_turn t1 (hc 0 (by omega))
  have BX := Lib.hid x1
  have BR := Lib.hid r1
  have TX := Lib.hid t1
  clear hc hn hcap hL hs r1 x1 t1
  subst hk
  have e0 : w1.cell? ⟨b, o, none⟩ = some (.string ⟨#[112, 105, 99, 107]⟩) := c0
  clear c0
  go_enter Tryz.func72, Tryz.ntmps72
  go_wp2_with fail
  refine (refNumbers_any (n := 2) SL.out HLA.out (by omega) HSS.out).mono ?_
  rintro e w2 ⟨⟨pq, nq, cq, rfl, ho⟩, t2⟩
  have T2 := Lib.hid (TX.out.trans t2)
  have BR2 := Lib.hid ((t2.block _ (heap_lt BR.out) (fun h => h)).trans BR.out)
  have BX2 := Lib.hid ((t2.block _ (heap_lt BX.out) (fun h => h)).trans BX.out)
  have HGS := Lib.hid t2.size
  clear t2 e0
  cases hnn : refNums (wPick :: A) 2 with
  | none =>
    have HR : Hid (readT (wPick :: A) = .error 5) := Lib.hid (by rw [readT_pick, hnn])
    have BB5 := BR2
    clear hnn ho
    obtain ⟨i0, i1, i2⟩ := cells3m BB5.out
    have f0 := frozen_blk (o := 0) BB5.out
    have f1 := frozen_blk (o := 1) BB5.out
    have f2 := frozen_blk (o := 2) BB5.out
    go_wp2_with fail
    refine bodyPost_ret (v := .tuple #[.agg #[.int .i64 0, .int .i64 0, .int .i64 0], .int .i64 5]) (read_res rfl rfl (store3 BB5.out _ _ _)) rfl ?_
    exact RDP.err HR.out (by decide) (store3_turn T2.out (Nat.le_refl _) _ _ _)
  | some N =>
    have ho := ho N hnn
    have hN : N.length = 2 := by
      have h := hnn
      rw [refNums_cons] at h
      split at h
      · rename_i h2; rw [numsL_length h]; exact h2
      · cases h
    obtain ⟨a, c, rfl⟩ : ∃ a c, N = [a, c] := by
      match N, hN with
      | [a, c], _ => exact ⟨a, c, rfl⟩
    have hq : nq = 2 := by
      rcases ho.2 with ⟨_, h0⟩ | ⟨_, _, _, e, _⟩
      · cases h0
      · cases e; rfl
    subst hq
    obtain ⟨g, hgB, rfl, hcq, hg⟩ := ownI ho (by simp)
    have g0 : w2.cell? ⟨g, 0, none⟩ = some (.int .i64 (a : Nat)) := hg 0 (by simp)
    have g1 : w2.cell? ⟨g, 1, none⟩ = some (.int .i64 (c : Nat)) := hg 1 (by simp)
    have hgX : ¬ g = w.heap.size + 1 := by have := heap_lt BX.out; omega
    have hXg : ¬ w.heap.size + 1 = g := fun e => hgX e.symm
    have HRR : Hid ((turnOk ⟨0, (a : Nat), (c : Nat)⟩ = false → readT (wPick :: A) = .error 2) ∧ (turnOk ⟨0, (a : Nat), (c : Nat)⟩ = true → readT (wPick :: A) = .ok ⟨0, (a : Nat), (c : Nat)⟩)) := Lib.hid (by
      constructor <;> (intro h; rw [readT_pick, hnn]; simp only [chkT]; rw [h]; rfl)) 
    clear hnn ho hN hg hgB hcq
    obtain ⟨i0, i1, i2⟩ := cells3m BX2.out
    have f0 := frozen_blk (o := 0) BX2.out
    have f1 := frozen_blk (o := 1) BX2.out
    have f2 := frozen_blk (o := 2) BX2.out
    go_wp2_with fail
    go_region
    have BB4 : Hid ((((w2.setCell ⟨w.heap.size + 1, 0, none⟩ (.int .i64 0)).setCell ⟨w.heap.size + 1, 1, none⟩ (.int .i64 (a : Nat))).setCell ⟨w.heap.size + 1, 2, none⟩ (.int .i64 (c : Nat))).drew.heap[w.heap.size + 1]? = some (.cells #[.int .i64 0, .int .i64 (a : Nat), .int .i64 (c : Nat)] 60)) := Lib.hid (store3 BX2.out _ _ _)
    have BB2 : Hid ((((w2.setCell ⟨w.heap.size + 1, 0, none⟩ (.int .i64 0)).setCell ⟨w.heap.size + 1, 1, none⟩ (.int .i64 (a : Nat))).setCell ⟨w.heap.size + 1, 2, none⟩ (.int .i64 (c : Nat))).drew.heap[w.heap.size]? = some (.cells #[.int .i64 0, .int .i64 0, .int .i64 0] 60)) := Lib.hid (store3_oth BR2.out (by omega) _ _ _)
    have TZ := Lib.hid ((store3_turn (B := w.heap.size + 1) T2.out (by omega) (.int .i64 0) (.int .i64 (a : Nat)) (.int .i64 (c : Nat))).drew)
    obtain ⟨wz, hwz⟩ : ∃ wz, (((w2.setCell ⟨w.heap.size + 1, 0, none⟩ (.int .i64 0)).setCell ⟨w.heap.size + 1, 1, none⟩ (.int .i64 (a : Nat))).setCell ⟨w.heap.size + 1, 2, none⟩ (.int .i64 (c : Nat))).drew = wz := ⟨_, rfl⟩
    rw [hwz] at BB4 BB2 TZ ⊢
    clear hwz i0 i1 i2 f0 f1 f2 g0 g1
    obtain ⟨m0, m1, m2⟩ := cells3m BB4.out
    have HC := Lib.hid (refTurn_any 0 (a : Nat) (c : Nat) wz)
    cases hok : turnOk ⟨0, (a : Nat), (c : Nat)⟩ with
    | false =>
      have HR := Lib.hid (HRR.out.1 hok)
      rw [hok] at HC
      clear hok
      go_wp2_with fail
      refine HC.out.mono ?_
      rintro e w5 ⟨rfl, t5⟩
      have T5 := Lib.hid (TZ.out.trans t5)
      have BB5 := Lib.hid ((t5.block _ (heap_lt BB2.out) (fun h => h)).trans BB2.out)
      obtain ⟨i0, i1, i2⟩ := cells3m BB5.out
      have f0 := frozen_blk (o := 0) BB5.out
      have f1 := frozen_blk (o := 1) BB5.out
      have f2 := frozen_blk (o := 2) BB5.out
      clear t5 m0 m1 m2
      go_wp2_with fail
      refine bodyPost_ret (v := .tuple #[.agg #[.int .i64 0, .int .i64 0, .int .i64 0], .int .i64 2]) (read_res rfl rfl (store3 BB5.out _ _ _)) rfl ?_
      exact RDP.err HR.out (by decide) (store3_turn T5.out (Nat.le_refl _) _ _ _)
    | true =>
      have HR := Lib.hid (HRR.out.2 hok)
      rw [hok] at HC
      clear hok
      go_wp2_with fail
      refine HC.out.mono ?_
      rintro e w5 ⟨rfl, t5⟩
      have T5 := Lib.hid (TZ.out.trans t5)
      have BB5 := Lib.hid ((t5.block _ (heap_lt BB2.out) (fun h => h)).trans BB2.out)
      have BB6 := Lib.hid ((t5.block _ (heap_lt BB4.out) (fun h => h)).trans BB4.out)
      obtain ⟨i0, i1, i2⟩ := cells3m BB5.out
      have f0 := frozen_blk (o := 0) BB5.out
      have f1 := frozen_blk (o := 1) BB5.out
      have f2 := frozen_blk (o := 2) BB5.out
      clear t5 m0 m1 m2
      obtain ⟨m0, m1, m2⟩ := cells3m BB6.out
      go_wp2_with fail
      refine bodyPost_ret (v := .tuple #[.agg #[.int .i64 0, .int .i64 (a : Nat), .int .i64 (c : Nat)], .int .i64 0]) (read_res rfl rfl (store3 BB5.out _ _ _)) rfl ?_
      exact RDP.good HR.out (store3_turn T5.out (Nat.le_refl _) _ _ _)

set_option maxRecDepth 100000 in
set_option maxHeartbeats 8000000 in
theorem read_round {k : Bs} {A : List Bs} {b o n cap : Nat} {w : World} (hc : ∀ i, i < n → w.cell? ⟨b, o + i, none⟩ = some (.string ⟨((k :: A)[i]?.getD []).toArray⟩)) (hn : n = (k :: A).length) (hcap : n ≤ cap) (hL : n ≤ 1000000) (hs : ∀ i, i < n → ((k :: A)[i]?.getD []).length ≤ 1000000) (hk : k = wRound) :
    Calls Tryz.prog 72 #[.slice (some ⟨b, o, none⟩) n cap] w (RDP w (k :: A)) := by
  obtain ⟨w1, hw1⟩ : ∃ w1, (w.alloc (.cells #[.int .i64 0, .int .i64 0, .int .i64 0] 60)).alloc (.cells #[.int .i64 0, .int .i64 0, .int .i64 0] 60) = w1 := ⟨_, rfl⟩
  obtain ⟨r1, x1, t1⟩ := alloc2 hw1
  have hpos : (0 : Int) < (n : Int) := by rw [List.length_cons] at hn; omega
  have SL : Hid (StrSl w1 (.slice (some ⟨b, o, none⟩) n cap) (k :: A)) := Lib.hid (.inr ⟨b, o, cap, by rw [hn], by rw [← hn]; exact hcap, fun i hi => cell_turn t1 (hc i (by rw [hn]; exact hi))⟩)
  have HSS : Hid (∀ i, i < (k :: A).length → ((k :: A)[i]?.getD []).length ≤ 1000000) := Lib.hid (fun i hi => hs i (by rw [hn]; exact hi))
  have HLA : Hid ((k :: A).length ≤ 1000000) := Lib.hid (by rw [← hn]; exact hL)
  have c0 : w1.cell? ⟨b, o, none⟩ = some (.string ⟨k.toArray⟩) := cell_turn t1 (hc 0 (by omega))
  have BX := Lib.hid x1
  have BR := Lib.hid r1
  have TX := Lib.hid t1
  clear hc hn hcap hL hs r1 x1 t1
  subst hk
  have e0 : w1.cell? ⟨b, o, none⟩ = some (.string ⟨#[114, 111, 117, 110, 100]⟩) := c0
  clear c0
  go_enter Tryz.func72, Tryz.ntmps72
  go_wp2_with fail
  refine (refNumbers_any (n := 1) SL.out HLA.out (by omega) HSS.out).mono ?_
  rintro e w2 ⟨⟨pq, nq, cq, rfl, ho⟩, t2⟩
  have T2 := Lib.hid (TX.out.trans t2)
  have BR2 := Lib.hid ((t2.block _ (heap_lt BR.out) (fun h => h)).trans BR.out)
  have BX2 := Lib.hid ((t2.block _ (heap_lt BX.out) (fun h => h)).trans BX.out)
  have HGS := Lib.hid t2.size
  clear t2 e0
  cases hnn : refNums (wRound :: A) 1 with
  | none =>
    have HR : Hid (readT (wRound :: A) = .error 5) := Lib.hid (by rw [readT_round, hnn])
    have BB5 := BR2
    clear hnn ho
    obtain ⟨i0, i1, i2⟩ := cells3m BB5.out
    have f0 := frozen_blk (o := 0) BB5.out
    have f1 := frozen_blk (o := 1) BB5.out
    have f2 := frozen_blk (o := 2) BB5.out
    go_wp2_with fail
    refine bodyPost_ret (v := .tuple #[.agg #[.int .i64 0, .int .i64 0, .int .i64 0], .int .i64 5]) (read_res rfl rfl (store3 BB5.out _ _ _)) rfl ?_
    exact RDP.err HR.out (by decide) (store3_turn T2.out (Nat.le_refl _) _ _ _)
  | some N =>
    have ho := ho N hnn
    have hN : N.length = 1 := by
      have h := hnn
      rw [refNums_cons] at h
      split at h
      · rename_i h2; rw [numsL_length h]; exact h2
      · cases h
    obtain ⟨c, rfl⟩ : ∃ c, N = [c] := by
      match N, hN with
      | [c], _ => exact ⟨c, rfl⟩
    have hq : nq = 1 := by
      rcases ho.2 with ⟨_, h0⟩ | ⟨_, _, _, e, _⟩
      · cases h0
      · cases e; rfl
    subst hq
    obtain ⟨g, hgB, rfl, hcq, hg⟩ := ownI ho (by simp)
    have g0 : w2.cell? ⟨g, 0, none⟩ = some (.int .i64 (c : Nat)) := hg 0 (by simp)
    have HRR : Hid ((turnOk ⟨1, 0, (c : Nat)⟩ = false → readT (wRound :: A) = .error 2) ∧ (turnOk ⟨1, 0, (c : Nat)⟩ = true → readT (wRound :: A) = .ok ⟨1, 0, (c : Nat)⟩)) := Lib.hid (by
      constructor <;> (intro h; rw [readT_round, hnn]; simp only [chkT]; rw [h]; rfl))
    clear hnn ho hN hg hgB hcq
    obtain ⟨i0, i1, i2⟩ := cells3m BX2.out
    have f0 := frozen_blk (o := 0) BX2.out
    have f1 := frozen_blk (o := 1) BX2.out
    have f2 := frozen_blk (o := 2) BX2.out
    have BB4 : Hid ((((w2.setCell ⟨w.heap.size + 1, 0, none⟩ (.int .i64 1)).setCell ⟨w.heap.size + 1, 1, none⟩ (.int .i64 0)).setCell ⟨w.heap.size + 1, 2, none⟩ (.int .i64 (c : Nat))).heap[w.heap.size + 1]? = some (.cells #[.int .i64 1, .int .i64 0, .int .i64 (c : Nat)] 60)) := Lib.hid (store3 BX2.out _ _ _)
    have BB2 : Hid ((((w2.setCell ⟨w.heap.size + 1, 0, none⟩ (.int .i64 1)).setCell ⟨w.heap.size + 1, 1, none⟩ (.int .i64 0)).setCell ⟨w.heap.size + 1, 2, none⟩ (.int .i64 (c : Nat))).heap[w.heap.size]? = some (.cells #[.int .i64 0, .int .i64 0, .int .i64 0] 60)) := Lib.hid (store3_oth BR2.out (by omega) _ _ _)
    have TZ := Lib.hid (store3_turn (B := w.heap.size + 1) T2.out (by omega) (.int .i64 1) (.int .i64 0) (.int .i64 (c : Nat)))
    go_upto_region 19 with (fail)
    obtain ⟨wz, hwz⟩ : ∃ wz, (((w2.setCell ⟨w.heap.size + 1, 0, none⟩ (.int .i64 1)).setCell ⟨w.heap.size + 1, 1, none⟩ (.int .i64 0)).setCell ⟨w.heap.size + 1, 2, none⟩ (.int .i64 (c : Nat))) = wz := ⟨_, rfl⟩
    rw [hwz] at BB4 BB2 TZ ⊢
    clear hwz i0 i1 i2 f0 f1 f2 g0
    obtain ⟨m0, m1, m2⟩ := cells3m BB4.out
    have HC := Lib.hid (refTurn_any 1 0 (c : Nat) wz)
    cases hok : turnOk ⟨1, 0, (c : Nat)⟩ with
    | false =>
      have HR := Lib.hid (HRR.out.1 hok)
      rw [hok] at HC
      clear hok
      go_wp2_with fail
      refine HC.out.mono ?_
      rintro e w5 ⟨rfl, t5⟩
      have T5 := Lib.hid (TZ.out.trans t5)
      have BB5 := Lib.hid ((t5.block _ (heap_lt BB2.out) (fun h => h)).trans BB2.out)
      obtain ⟨i0, i1, i2⟩ := cells3m BB5.out
      have f0 := frozen_blk (o := 0) BB5.out
      have f1 := frozen_blk (o := 1) BB5.out
      have f2 := frozen_blk (o := 2) BB5.out
      clear t5 m0 m1 m2
      go_wp2_with fail
      refine bodyPost_ret (v := .tuple #[.agg #[.int .i64 0, .int .i64 0, .int .i64 0], .int .i64 2]) (read_res rfl rfl (store3 BB5.out _ _ _)) rfl ?_
      exact RDP.err HR.out (by decide) (store3_turn T5.out (Nat.le_refl _) _ _ _)
    | true =>
      have HR := Lib.hid (HRR.out.2 hok)
      rw [hok] at HC
      clear hok
      go_wp2_with fail
      refine HC.out.mono ?_
      rintro e w5 ⟨rfl, t5⟩
      have T5 := Lib.hid (TZ.out.trans t5)
      have BB5 := Lib.hid ((t5.block _ (heap_lt BB2.out) (fun h => h)).trans BB2.out)
      have BB6 := Lib.hid ((t5.block _ (heap_lt BB4.out) (fun h => h)).trans BB4.out)
      obtain ⟨i0, i1, i2⟩ := cells3m BB5.out
      have f0 := frozen_blk (o := 0) BB5.out
      have f1 := frozen_blk (o := 1) BB5.out
      have f2 := frozen_blk (o := 2) BB5.out
      clear t5 m0 m1 m2
      obtain ⟨m0, m1, m2⟩ := cells3m BB6.out
      go_wp2_with fail
      refine bodyPost_ret (v := .tuple #[.agg #[.int .i64 1, .int .i64 0, .int .i64 (c : Nat)], .int .i64 0]) (read_res rfl rfl (store3 BB5.out _ _ _)) rfl ?_
      exact RDP.good HR.out (store3_turn T5.out (Nat.le_refl _) _ _ _)

set_option maxRecDepth 100000 in
set_option maxHeartbeats 8000000 in
theorem read_show {k : Bs} {A : List Bs} {b o n cap : Nat} {w : World} (hc : ∀ i, i < n → w.cell? ⟨b, o + i, none⟩ = some (.string ⟨((k :: A)[i]?.getD []).toArray⟩)) (hn : n = (k :: A).length) (hcap : n ≤ cap) (hL : n ≤ 1000000) (hs : ∀ i, i < n → ((k :: A)[i]?.getD []).length ≤ 1000000) (hk : k = wShow) :
    Calls Tryz.prog 72 #[.slice (some ⟨b, o, none⟩) n cap] w (RDP w (k :: A)) := by
  obtain ⟨w1, hw1⟩ : ∃ w1, (w.alloc (.cells #[.int .i64 0, .int .i64 0, .int .i64 0] 60)).alloc (.cells #[.int .i64 0, .int .i64 0, .int .i64 0] 60) = w1 := ⟨_, rfl⟩
  obtain ⟨r1, x1, t1⟩ := alloc2 hw1
  have hpos : (0 : Int) < (n : Int) := by rw [List.length_cons] at hn; omega
  have SL : Hid (StrSl w1 (.slice (some ⟨b, o, none⟩) n cap) (k :: A)) := Lib.hid (.inr ⟨b, o, cap, by rw [hn], by rw [← hn]; exact hcap, fun i hi => cell_turn t1 (hc i (by rw [hn]; exact hi))⟩)
  have HSS : Hid (∀ i, i < (k :: A).length → ((k :: A)[i]?.getD []).length ≤ 1000000) := Lib.hid (fun i hi => hs i (by rw [hn]; exact hi))
  have HLA : Hid ((k :: A).length ≤ 1000000) := Lib.hid (by rw [← hn]; exact hL)
  have c0 : w1.cell? ⟨b, o, none⟩ = some (.string ⟨k.toArray⟩) := cell_turn t1 (hc 0 (by omega))
  have BX := Lib.hid x1
  have BR := Lib.hid r1
  have TX := Lib.hid t1
  clear hc hn hcap hL hs r1 x1 t1
  subst hk
  have e0 : w1.cell? ⟨b, o, none⟩ = some (.string ⟨#[115, 104, 111, 119]⟩) := c0
  clear c0
  go_enter Tryz.func72, Tryz.ntmps72
  go_wp2_with fail
  refine (refNumbers_any (n := 0) SL.out HLA.out (by omega) HSS.out).mono ?_
  rintro e w2 ⟨⟨pq, nq, cq, rfl, ho⟩, t2⟩
  have T2 := Lib.hid (TX.out.trans t2)
  have BR2 := Lib.hid ((t2.block _ (heap_lt BR.out) (fun h => h)).trans BR.out)
  have BX2 := Lib.hid ((t2.block _ (heap_lt BX.out) (fun h => h)).trans BX.out)
  have HGS := Lib.hid t2.size
  clear t2 e0
  cases hnn : refNums (wShow :: A) 0 with
  | none =>
    have HR : Hid (readT (wShow :: A) = .error 5) := Lib.hid (by rw [readT_show, hnn])
    clear hnn ho
    obtain ⟨i0, i1, i2⟩ := cells3m BX2.out
    have f0 := frozen_blk (o := 0) BX2.out
    have BB4 : Hid ((w2.setCell ⟨w.heap.size + 1, 0, none⟩ (.int .i64 2)).heap[w.heap.size + 1]? = some (.cells #[.int .i64 2, .int .i64 0, .int .i64 0] 60)) := Lib.hid (heap_setCell_at BX2.out 0 _)
    have BB2 : Hid ((w2.setCell ⟨w.heap.size + 1, 0, none⟩ (.int .i64 2)).heap[w.heap.size]? = some (.cells #[.int .i64 0, .int .i64 0, .int .i64 0] 60)) := Lib.hid (blk_set BR2.out (by omega))
    have TZ := Lib.hid (T2.out.setCell (p := ⟨w.heap.size + 1, 0, none⟩) (.inr (Nat.le_succ _)) (.int .i64 2))
    go_upto_region 19 with (fail)
    obtain ⟨wz, hwz⟩ : ∃ wz, (w2.setCell ⟨w.heap.size + 1, 0, none⟩ (.int .i64 2)) = wz := ⟨_, rfl⟩
    rw [hwz] at BB4 BB2 TZ ⊢
    clear hwz i0 i1 i2 f0
    have BB5 := BB2
    obtain ⟨i0, i1, i2⟩ := cells3m BB5.out
    have f0 := frozen_blk (o := 0) BB5.out
    have f1 := frozen_blk (o := 1) BB5.out
    have f2 := frozen_blk (o := 2) BB5.out
    go_wp2_with fail
    refine bodyPost_ret (v := .tuple #[.agg #[.int .i64 0, .int .i64 0, .int .i64 0], .int .i64 5]) (read_res rfl rfl (store3 BB5.out _ _ _)) rfl ?_
    exact RDP.err HR.out (by decide) (store3_turn TZ.out (Nat.le_refl _) _ _ _)
  | some N =>
    have ho := ho N hnn
    have hN : N.length = 0 := by
      have h := hnn
      rw [refNums_cons] at h
      split at h
      · rename_i h2; rw [numsL_length h]; exact h2
      · cases h
    obtain rfl : N = [] := List.eq_nil_of_length_eq_zero hN
    have HRR : Hid ((turnOk ⟨2, 0, 0⟩ = false → readT (wShow :: A) = .error 2) ∧ (turnOk ⟨2, 0, 0⟩ = true → readT (wShow :: A) = .ok ⟨2, 0, 0⟩)) := Lib.hid (by
      constructor <;> (intro h; rw [readT_show, hnn]; simp only [chkT]; rw [h]; rfl))
    clear hnn ho hN
    obtain ⟨i0, i1, i2⟩ := cells3m BX2.out
    have f0 := frozen_blk (o := 0) BX2.out
    have BB4 : Hid ((w2.setCell ⟨w.heap.size + 1, 0, none⟩ (.int .i64 2)).heap[w.heap.size + 1]? = some (.cells #[.int .i64 2, .int .i64 0, .int .i64 0] 60)) := Lib.hid (heap_setCell_at BX2.out 0 _)
    have BB2 : Hid ((w2.setCell ⟨w.heap.size + 1, 0, none⟩ (.int .i64 2)).heap[w.heap.size]? = some (.cells #[.int .i64 0, .int .i64 0, .int .i64 0] 60)) := Lib.hid (blk_set BR2.out (by omega))
    have TZ := Lib.hid (T2.out.setCell (p := ⟨w.heap.size + 1, 0, none⟩) (.inr (Nat.le_succ _)) (.int .i64 2))
    go_upto_region 19 with (fail)
    obtain ⟨wz, hwz⟩ : ∃ wz, (w2.setCell ⟨w.heap.size + 1, 0, none⟩ (.int .i64 2)) = wz := ⟨_, rfl⟩
    rw [hwz] at BB4 BB2 TZ ⊢
    clear hwz i0 i1 i2 f0
    obtain ⟨m0, m1, m2⟩ := cells3m BB4.out
    have HC := Lib.hid (refTurn_any 2 0 0 wz)
    cases hok : turnOk ⟨2, 0, 0⟩ with
    | false =>
      have HR := Lib.hid (HRR.out.1 hok)
      rw [hok] at HC
      clear hok
      go_wp2_with fail
      refine HC.out.mono ?_
      rintro e w5 ⟨rfl, t5⟩
      have T5 := Lib.hid (TZ.out.trans t5)
      have BB5 := Lib.hid ((t5.block _ (heap_lt BB2.out) (fun h => h)).trans BB2.out)
      obtain ⟨i0, i1, i2⟩ := cells3m BB5.out
      have f0 := frozen_blk (o := 0) BB5.out
      have f1 := frozen_blk (o := 1) BB5.out
      have f2 := frozen_blk (o := 2) BB5.out
      clear t5 m0 m1 m2
      go_wp2_with fail
      refine bodyPost_ret (v := .tuple #[.agg #[.int .i64 0, .int .i64 0, .int .i64 0], .int .i64 2]) (read_res rfl rfl (store3 BB5.out _ _ _)) rfl ?_
      exact RDP.err HR.out (by decide) (store3_turn T5.out (Nat.le_refl _) _ _ _)
    | true =>
      have HR := Lib.hid (HRR.out.2 hok)
      rw [hok] at HC
      clear hok
      go_wp2_with fail
      refine HC.out.mono ?_
      rintro e w5 ⟨rfl, t5⟩
      have T5 := Lib.hid (TZ.out.trans t5)
      have BB5 := Lib.hid ((t5.block _ (heap_lt BB2.out) (fun h => h)).trans BB2.out)
      have BB6 := Lib.hid ((t5.block _ (heap_lt BB4.out) (fun h => h)).trans BB4.out)
      obtain ⟨i0, i1, i2⟩ := cells3m BB5.out
      have f0 := frozen_blk (o := 0) BB5.out
      have f1 := frozen_blk (o := 1) BB5.out
      have f2 := frozen_blk (o := 2) BB5.out
      clear t5 m0 m1 m2
      obtain ⟨m0, m1, m2⟩ := cells3m BB6.out
      go_wp2_with fail
      refine bodyPost_ret (v := .tuple #[.agg #[.int .i64 2, .int .i64 0, .int .i64 0], .int .i64 0]) (read_res rfl rfl (store3 BB5.out _ _ _)) rfl ?_
      exact RDP.good HR.out (store3_turn T5.out (Nat.le_refl _) _ _ _)

set_option maxRecDepth 100000 in
set_option maxHeartbeats 8000000 in
theorem read_rows {k : Bs} {A : List Bs} {b o n cap : Nat} {w : World} (hc : ∀ i, i < n → w.cell? ⟨b, o + i, none⟩ = some (.string ⟨((k :: A)[i]?.getD []).toArray⟩)) (hn : n = (k :: A).length) (hcap : n ≤ cap) (hL : n ≤ 1000000) (hs : ∀ i, i < n → ((k :: A)[i]?.getD []).length ≤ 1000000) (hk : k = wRows) :
    Calls Tryz.prog 72 #[.slice (some ⟨b, o, none⟩) n cap] w (RDP w (k :: A)) := by
  obtain ⟨w1, hw1⟩ : ∃ w1, (w.alloc (.cells #[.int .i64 0, .int .i64 0, .int .i64 0] 60)).alloc (.cells #[.int .i64 0, .int .i64 0, .int .i64 0] 60) = w1 := ⟨_, rfl⟩
  obtain ⟨r1, x1, t1⟩ := alloc2 hw1
  have hpos : (0 : Int) < (n : Int) := by rw [List.length_cons] at hn; omega
  have SL : Hid (StrSl w1 (.slice (some ⟨b, o, none⟩) n cap) (k :: A)) := Lib.hid (.inr ⟨b, o, cap, by rw [hn], by rw [← hn]; exact hcap, fun i hi => cell_turn t1 (hc i (by rw [hn]; exact hi))⟩)
  have HSS : Hid (∀ i, i < (k :: A).length → ((k :: A)[i]?.getD []).length ≤ 1000000) := Lib.hid (fun i hi => hs i (by rw [hn]; exact hi))
  have HLA : Hid ((k :: A).length ≤ 1000000) := Lib.hid (by rw [← hn]; exact hL)
  have c0 : w1.cell? ⟨b, o, none⟩ = some (.string ⟨k.toArray⟩) := cell_turn t1 (hc 0 (by omega))
  have BX := Lib.hid x1
  have BR := Lib.hid r1
  have TX := Lib.hid t1
  clear hc hn hcap hL hs r1 x1 t1
  subst hk
  have e0 : w1.cell? ⟨b, o, none⟩ = some (.string ⟨#[114, 111, 119, 115]⟩) := c0
  clear c0
  go_enter Tryz.func72, Tryz.ntmps72
  go_wp2_with fail
  refine (refNumbers_any (n := 0) SL.out HLA.out (by omega) HSS.out).mono ?_
  rintro e w2 ⟨⟨pq, nq, cq, rfl, ho⟩, t2⟩
  have T2 := Lib.hid (TX.out.trans t2)
  have BR2 := Lib.hid ((t2.block _ (heap_lt BR.out) (fun h => h)).trans BR.out)
  have BX2 := Lib.hid ((t2.block _ (heap_lt BX.out) (fun h => h)).trans BX.out)
  have HGS := Lib.hid t2.size
  clear t2 e0
  cases hnn : refNums (wRows :: A) 0 with
  | none =>
    have HR : Hid (readT (wRows :: A) = .error 5) := Lib.hid (by rw [readT_rows, hnn])
    clear hnn ho
    obtain ⟨i0, i1, i2⟩ := cells3m BX2.out
    have f0 := frozen_blk (o := 0) BX2.out
    have BB4 : Hid ((w2.setCell ⟨w.heap.size + 1, 0, none⟩ (.int .i64 3)).heap[w.heap.size + 1]? = some (.cells #[.int .i64 3, .int .i64 0, .int .i64 0] 60)) := Lib.hid (heap_setCell_at BX2.out 0 _)
    have BB2 : Hid ((w2.setCell ⟨w.heap.size + 1, 0, none⟩ (.int .i64 3)).heap[w.heap.size]? = some (.cells #[.int .i64 0, .int .i64 0, .int .i64 0] 60)) := Lib.hid (blk_set BR2.out (by omega))
    have TZ := Lib.hid (T2.out.setCell (p := ⟨w.heap.size + 1, 0, none⟩) (.inr (Nat.le_succ _)) (.int .i64 3))
    go_upto_region 19 with (fail)
    obtain ⟨wz, hwz⟩ : ∃ wz, (w2.setCell ⟨w.heap.size + 1, 0, none⟩ (.int .i64 3)) = wz := ⟨_, rfl⟩
    rw [hwz] at BB4 BB2 TZ ⊢
    clear hwz i0 i1 i2 f0
    have BB5 := BB2
    obtain ⟨i0, i1, i2⟩ := cells3m BB5.out
    have f0 := frozen_blk (o := 0) BB5.out
    have f1 := frozen_blk (o := 1) BB5.out
    have f2 := frozen_blk (o := 2) BB5.out
    go_wp2_with fail
    refine bodyPost_ret (v := .tuple #[.agg #[.int .i64 0, .int .i64 0, .int .i64 0], .int .i64 5]) (read_res rfl rfl (store3 BB5.out _ _ _)) rfl ?_
    exact RDP.err HR.out (by decide) (store3_turn TZ.out (Nat.le_refl _) _ _ _)
  | some N =>
    have ho := ho N hnn
    have hN : N.length = 0 := by
      have h := hnn
      rw [refNums_cons] at h
      split at h
      · rename_i h2; rw [numsL_length h]; exact h2
      · cases h
    obtain rfl : N = [] := List.eq_nil_of_length_eq_zero hN
    have HRR : Hid ((turnOk ⟨3, 0, 0⟩ = false → readT (wRows :: A) = .error 2) ∧ (turnOk ⟨3, 0, 0⟩ = true → readT (wRows :: A) = .ok ⟨3, 0, 0⟩)) := Lib.hid (by
      constructor <;> (intro h; rw [readT_rows, hnn]; simp only [chkT]; rw [h]; rfl))
    clear hnn ho hN
    obtain ⟨i0, i1, i2⟩ := cells3m BX2.out
    have f0 := frozen_blk (o := 0) BX2.out
    have BB4 : Hid ((w2.setCell ⟨w.heap.size + 1, 0, none⟩ (.int .i64 3)).heap[w.heap.size + 1]? = some (.cells #[.int .i64 3, .int .i64 0, .int .i64 0] 60)) := Lib.hid (heap_setCell_at BX2.out 0 _)
    have BB2 : Hid ((w2.setCell ⟨w.heap.size + 1, 0, none⟩ (.int .i64 3)).heap[w.heap.size]? = some (.cells #[.int .i64 0, .int .i64 0, .int .i64 0] 60)) := Lib.hid (blk_set BR2.out (by omega))
    have TZ := Lib.hid (T2.out.setCell (p := ⟨w.heap.size + 1, 0, none⟩) (.inr (Nat.le_succ _)) (.int .i64 3))
    go_upto_region 19 with (fail)
    obtain ⟨wz, hwz⟩ : ∃ wz, (w2.setCell ⟨w.heap.size + 1, 0, none⟩ (.int .i64 3)) = wz := ⟨_, rfl⟩
    rw [hwz] at BB4 BB2 TZ ⊢
    clear hwz i0 i1 i2 f0
    obtain ⟨m0, m1, m2⟩ := cells3m BB4.out
    have HC := Lib.hid (refTurn_any 3 0 0 wz)
    cases hok : turnOk ⟨3, 0, 0⟩ with
    | false =>
      have HR := Lib.hid (HRR.out.1 hok)
      rw [hok] at HC
      clear hok
      go_wp2_with fail
      refine HC.out.mono ?_
      rintro e w5 ⟨rfl, t5⟩
      have T5 := Lib.hid (TZ.out.trans t5)
      have BB5 := Lib.hid ((t5.block _ (heap_lt BB2.out) (fun h => h)).trans BB2.out)
      obtain ⟨i0, i1, i2⟩ := cells3m BB5.out
      have f0 := frozen_blk (o := 0) BB5.out
      have f1 := frozen_blk (o := 1) BB5.out
      have f2 := frozen_blk (o := 2) BB5.out
      clear t5 m0 m1 m2
      go_wp2_with fail
      refine bodyPost_ret (v := .tuple #[.agg #[.int .i64 0, .int .i64 0, .int .i64 0], .int .i64 2]) (read_res rfl rfl (store3 BB5.out _ _ _)) rfl ?_
      exact RDP.err HR.out (by decide) (store3_turn T5.out (Nat.le_refl _) _ _ _)
    | true =>
      have HR := Lib.hid (HRR.out.2 hok)
      rw [hok] at HC
      clear hok
      go_wp2_with fail
      refine HC.out.mono ?_
      rintro e w5 ⟨rfl, t5⟩
      have T5 := Lib.hid (TZ.out.trans t5)
      have BB5 := Lib.hid ((t5.block _ (heap_lt BB2.out) (fun h => h)).trans BB2.out)
      have BB6 := Lib.hid ((t5.block _ (heap_lt BB4.out) (fun h => h)).trans BB4.out)
      obtain ⟨i0, i1, i2⟩ := cells3m BB5.out
      have f0 := frozen_blk (o := 0) BB5.out
      have f1 := frozen_blk (o := 1) BB5.out
      have f2 := frozen_blk (o := 2) BB5.out
      clear t5 m0 m1 m2
      obtain ⟨m0, m1, m2⟩ := cells3m BB6.out
      go_wp2_with fail
      refine bodyPost_ret (v := .tuple #[.agg #[.int .i64 3, .int .i64 0, .int .i64 0], .int .i64 0]) (read_res rfl rfl (store3 BB5.out _ _ _)) rfl ?_
      exact RDP.good HR.out (store3_turn T5.out (Nat.le_refl _) _ _ _)

set_option maxRecDepth 100000 in
set_option maxHeartbeats 8000000 in
theorem read_other {k : Bs} {A : List Bs} {b o n cap : Nat} {w : World} (hc : ∀ i, i < n → w.cell? ⟨b, o + i, none⟩ = some (.string ⟨((k :: A)[i]?.getD []).toArray⟩)) (hn : n = (k :: A).length) (hcap : n ≤ cap) (hL : n ≤ 1000000) (hs : ∀ i, i < n → ((k :: A)[i]?.getD []).length ≤ 1000000) (h1 : k ≠ wPick) (h2 : k ≠ wRound) (h3 : k ≠ wShow) (h4 : k ≠ wRows) :
    Calls Tryz.prog 72 #[.slice (some ⟨b, o, none⟩) n cap] w (RDP w (k :: A)) := by
  obtain ⟨w1, hw1⟩ : ∃ w1, (w.alloc (.cells #[.int .i64 0, .int .i64 0, .int .i64 0] 60)).alloc (.cells #[.int .i64 0, .int .i64 0, .int .i64 0] 60) = w1 := ⟨_, rfl⟩
  obtain ⟨r1, x1, t1⟩ := alloc2 hw1
  have hpos : (0 : Int) < (n : Int) := by rw [List.length_cons] at hn; omega
  have SL : Hid (StrSl w1 (.slice (some ⟨b, o, none⟩) n cap) (k :: A)) := Lib.hid (.inr ⟨b, o, cap, by rw [hn], by rw [← hn]; exact hcap, fun i hi => cell_turn t1 (hc i (by rw [hn]; exact hi))⟩)
  have HSS : Hid (∀ i, i < (k :: A).length → ((k :: A)[i]?.getD []).length ≤ 1000000) := Lib.hid (fun i hi => hs i (by rw [hn]; exact hi))
  have HLA : Hid ((k :: A).length ≤ 1000000) := Lib.hid (by rw [← hn]; exact hL)
  have c0 : w1.cell? ⟨b, o, none⟩ = some (.string ⟨k.toArray⟩) := cell_turn t1 (hc 0 (by omega))
  have BX := Lib.hid x1
  have BR := Lib.hid r1
  have TX := Lib.hid t1
  clear hc hn hcap hL hs r1 x1 t1
  have HR : Hid (readT (k :: A) = .error 5) := Lib.hid (by unfold readT; simp only; rw [if_neg h1, if_neg h2, if_neg h3, if_neg h4])
  have e1 : (k == [112, 105, 99, 107]) = false := by rw [beq_eq_false_iff_ne]; exact h1
  have e2 : (k == [114, 111, 117, 110, 100]) = false := by rw [beq_eq_false_iff_ne]; exact h2
  have e3 : (k == [115, 104, 111, 119]) = false := by rw [beq_eq_false_iff_ne]; exact h3
  have e4 : (k == [114, 111, 119, 115]) = false := by rw [beq_eq_false_iff_ne]; exact h4
  have BB5 := BR
  clear h1 h2 h3 h4
  obtain ⟨i0, i1, i2⟩ := cells3m BB5.out
  have f0 := frozen_blk (o := 0) BB5.out
  have f1 := frozen_blk (o := 1) BB5.out
  have f2 := frozen_blk (o := 2) BB5.out
  go_enter Tryz.func72, Tryz.ntmps72
  go_wp2_with fail
  refine bodyPost_ret (v := .tuple #[.agg #[.int .i64 0, .int .i64 0, .int .i64 0], .int .i64 5]) (read_res rfl rfl (store3 BB5.out _ _ _)) rfl ?_
  exact RDP.err HR.out (by decide) (store3_turn TX.out (Nat.le_refl _) _ _ _)

theorem refRead_any {v : Value} {L : List Bs} {w : World} (hv : StrSl w v L) (hne : L ≠ []) (hL : L.length ≤ 1000000) (hs : ∀ i, i < L.length → (L[i]?.getD []).length ≤ 1000000) : Calls Tryz.prog 72 #[v] w (RDP w L) := by
  rcases hv with ⟨h, _⟩ | ⟨b, o, cap, rfl, hcap, hc⟩
  · exact absurd h hne
  · obtain ⟨k, A, rfl⟩ : ∃ k A, L = k :: A := by
      cases L with
      | nil => exact absurd rfl hne
      | cons k A => exact ⟨k, A, rfl⟩
    by_cases h1 : k = wPick
    · exact read_pick hc rfl hcap hL hs h1
    by_cases h2 : k = wRound
    · exact read_round hc rfl hcap hL hs h2
    by_cases h3 : k = wShow
    · exact read_show hc rfl hcap hL hs h3
    by_cases h4 : k = wRows
    · exact read_rows hc rfl hcap hL hs h4
    · exact read_other hc rfl hcap hL hs h1 h2 h3 h4


/-- A script under way, at a box of its own. -/
abbrev DIS (w2 : World) (s : ScriptD) (v : Value) (W : World) : Prop := DI w2 (.int .i64 s.chans) (.int .i64 s.actors) (.int .i64 s.cap) (.bool s.twin) (.string (BT s.mod)) v s.turns W

theorem DI.set4 {w2 W : World} {x0 x1 x2 x3 x4 v : Value} {ts : List TurnD} (h : DI w2 x0 x1 x2 x3 x4 v ts W) (y : Value) : DI w2 x0 x1 x2 x3 y v ts (W.setCell ⟨w2.heap.size, 4, none⟩ y) :=
  ⟨heap_setCell_at h.blk 4 y, own_blk (w := W) h.own (fun j hj => Below.heap_setCell _ _ _ _ (fun e => h.apart (by rw [hj]; exact congrArg some e))), h.t.setCell (.inr (Nat.le_refl _)) _⟩

theorem push_more {w2 W : World} {x0 x1 x2 x3 x4 v : Value} {ts : List TurnD} {k a c : Int} (h : DI w2 x0 x1 x2 x3 x4 v ts W) (hn : ts.length ≤ 4096) (ty : TypeId) :
    ∃ pa n cap W', (Builtin.append_ #[24, 24] ty #[v, .slice (some ⟨W.heap.size, 0, none⟩) 1 1]).run Tryz.prog (W.alloc (.cells #[.int .i64 k, .int .i64 a, .int .i64 c] 60)) = .ok (.slice pa n cap) W' ∧
      W'.cell? ⟨w2.heap.size, 5, none⟩ = some v ∧ W'.frozen? ⟨w2.heap.size, 5, none⟩ = false ∧ DI w2 x0 x1 x2 x3 x4 (.slice pa n cap) (ts ++ [⟨k, a, c⟩]) (W'.setCell ⟨w2.heap.size, 5, none⟩ (.slice pa n cap)) ∧
      (∀ j, j < W.heap.size → v.ownBlock ≠ some j → W'.heap[j]? = W.heap[j]?) ∧ (∀ j, j < W.heap.size → v.ownBlock ≠ some j → j ≠ w2.heap.size → (W'.setCell ⟨w2.heap.size, 5, none⟩ (.slice pa n cap)).heap[j]? = W.heap[j]?) := by
  obtain ⟨i0, hi, hz⟩ := Option.map_eq_some_iff.1 infoT
  simp only [Prod.mk.injEq] at hz
  obtain ⟨hz0, hz1, hz2⟩ := hz
  have t8 : Turn Nn W (W.alloc (.cells #[.int .i64 k, .int .i64 a, .int .i64 c] 60)) := (Turn.refl Nn W).alloc _
  have hown1 := ownsRow_turn h.own t8
  have hnew : (W.alloc (.cells #[.int .i64 k, .int .i64 a, .int .i64 c] 60)).heap[W.heap.size]? = some (.cells #[.int .i64 k, .int .i64 a, .int .i64 c] 60) := World.alloc_heap_new _ _
  have hlt := heap_lt h.blk
  obtain ⟨v', W', hrun, hown', hgrow, _, hblk⟩ := run_append_own_at (P := Tryz.prog) (W.alloc (.cells #[.int .i64 k, .int .i64 a, .int .i64 c] 60)) (w2.heap.size + 1) 24 ty 60 i0 _ 3 24 Tryz.underlying24 hi hz0 hz1 hz2 rfl (by decide) v _ _ hown1 ⟨W.heap.size, 0, none⟩ 1 1 [.int .i64 k, .int .i64 a, .int .i64 c] rfl
    (fun j u hj => by
      have hj3 : j < 3 := by
        have := (List.getElem?_eq_some_iff.1 hj).1
        simpa using this
      have : (⟨W.heap.size, 0, none⟩ : Addr).add j = ⟨W.heap.size, j, none⟩ := by unfold Addr.add; split <;> simp_all
      rw [this, cell_blk hnew]
      simpa using hj)
    (fun u hu => by simp at hu; rcases hu with rfl | rfl | rfl <;> rfl) (by simp only [maxLen]; omega) (by omega) (by rw [World.size_alloc]; omega)
  have hB1 : (W.alloc (.cells #[.int .i64 k, .int .i64 a, .int .i64 c] 60)).heap[w2.heap.size]? = some (.cells #[x0, x1, x2, x3, x4, v] 26) := (t8.block _ hlt (fun h => h)).trans h.blk
  have hB2 : W'.heap[w2.heap.size]? = some (.cells #[x0, x1, x2, x3, x4, v] 26) := (hgrow.block _ (heap_lt hB1) (fun e => h.apart e.symm)).trans hB1
  have hvr : v'.ownBlock ≠ some w2.heap.size := by
    rcases hblk with e | e
    · rw [e]; exact h.apart
    · rw [e]; intro e2; simp only [Option.some.injEq] at e2; have := heap_lt hB1; omega
  have hD : DI w2 x0 x1 x2 x3 x4 v' (ts ++ [⟨k, a, c⟩]) (W'.setCell ⟨w2.heap.size, 5, none⟩ v') := by
    refine ⟨heap_setCell_at hB2 5 v', ?_, ?_⟩
    · refine own_blk (w := W') ?_ (fun j hj => Below.heap_setCell _ _ _ _ (fun e => hvr (by rw [hj]; exact congrArg some e)))
      have e1 : (ts ++ [(⟨k, a, c⟩ : TurnD)]).length = ts.length + 1 := by simp
      have e2 : turnCells (ts ++ [(⟨k, a, c⟩ : TurnD)]) = turnCells ts ++ [.int .i64 k, .int .i64 a, .int .i64 c] := by unfold turnCells; simp
      rw [e1, e2]; exact hown'
    · refine Turn.setCell (p := ⟨w2.heap.size, 5, none⟩) ?_ (.inr (Nat.le_refl _)) _
      have t1 := h.t.trans t8
      refine ⟨hgrow.os.trans t1.os, hgrow.tape.trans t1.tape, hgrow.output.trans t1.output, Nat.le_trans t1.size hgrow.size, fun j hj hs => ?_⟩
      exact (hgrow.block j (Nat.lt_of_lt_of_le hj t1.size) (fun e => by have := (h.own.lt j e.symm).1; omega)).trans (t1.block j hj hs)
  obtain ⟨pa, n, cap, rfl⟩ := hD.shape
  have hkeep : ∀ j, j < W.heap.size → v.ownBlock ≠ some j → W'.heap[j]? = W.heap[j]? := fun j hj hne =>
    (hgrow.block j (by rw [World.size_alloc]; omega) (fun e => hne e.symm)).trans (t8.block j hj (fun h => h))
  exact ⟨pa, n, cap, W', hrun, cell_blk hB2, frozen_blk hB2, hD, hkeep, fun j hj hne hj2 => (Below.heap_setCell _ _ _ _ (fun e => hj2 e)).trans (hkeep j hj hne)⟩

def addS (s : ScriptD) (L : List Bs) : Except Int ScriptD := if L.head? = some wBytes then (if s.turns = [] then bytesS s L else .error 5) else turnS s L
def ADP (w2 : World) (s : ScriptD) (L : List Bs) (e : Ending) (w' : World) : Prop :=
  (match addS s L with
    | .error c => e = .returned (.int .i64 c) ∧ c ≠ 0
    | .ok s' => e = .returned (.int .i64 0) ∧ ∃ pa n cap, DIS w2 s' (.slice pa n cap) w') ∧ Turn Nn w2 w'
theorem ADP.err {w2 w' : World} {s : ScriptD} {L : List Bs} {c : Int} (h : addS s L = .error c) (hc : c ≠ 0) (t : Turn Nn w2 w') : ADP w2 s L (.returned (.int .i64 c)) w' := ⟨by rw [h]; exact ⟨rfl, hc⟩, t⟩
theorem ADP.good {w2 w' : World} {s s' : ScriptD} {L : List Bs} {pa : Option Addr} {n cap : Nat} (h : addS s L = .ok s') (d : DIS w2 s' (.slice pa n cap) w') : ADP w2 s L (.returned (.int .i64 0)) w' := ⟨by rw [h]; exact ⟨rfl, _, _, _, d⟩, d.t⟩

theorem bytesS_two (s : ScriptD) (k d : Bs) : bytesS s [k, d] = if s.mod.length % 24 ≠ 0 then .error 5 else match unhexR d with
    | none => .error 5
    | some b => if 65536 < s.mod.length + b.length then .error 4 else .ok { s with mod := s.mod ++ b } := by
  unfold bytesS unhexR
  simp only
  by_cases h1 : s.mod.length % 24 ≠ 0
  · rw [if_pos (.inl h1), if_pos h1]
  · rw [if_neg h1]
    by_cases h2 : d.length < 2 ∨ 48 < d.length ∨ d.length % 2 = 1
    · rw [if_pos h2, if_pos]
      rcases h2 with h | h | h
      · by_cases h0 : d.length = 0
        · exact .inr (.inl h0)
        · exact .inr (.inr (.inl (by omega)))
      · exact .inr (.inr (.inr h))
      · exact .inr (.inr (.inl h))
    · have h3 : ¬ (s.mod.length % 24 ≠ 0 ∨ d.length = 0 ∨ d.length % 2 = 1 ∨ 48 < d.length) := by
        rintro (h | h | h | h)
        · exact h1 h
        · exact h2 (.inl (by omega))
        · exact h2 (.inr (.inr h))
        · exact h2 (.inr (.inl h))
      rw [if_neg h2, if_neg h3]
      cases unhexL d <;> rfl

/-- The cells of a turn's box. -/
def AS (b : Nat) (k a c : Int) (u : World) : Prop := u.cell? ⟨b, 0, none⟩ = some (.int .i64 k) ∧ u.cell? ⟨b, 1, none⟩ = some (.int .i64 a) ∧ u.cell? ⟨b, 2, none⟩ = some (.int .i64 c)
theorem AS.of {b : Nat} {k a c : Int} {u : World} (h : u.heap[b]? = some (.cells #[.int .i64 k, .int .i64 a, .int .i64 c] 60)) : AS b k a c u := cells3m h

theorem unhexL_len : ∀ {d b : Bs}, unhexL d = some b → b.length ≤ d.length
  | [], b, h => by simp [unhexL] at h; subst h; simp
  | [_], b, h => by simp [unhexL] at h
  | x :: y :: r, b, h => by
    unfold unhexL at h
    split at h
    · cases hr : unhexL r with
      | none => rw [hr] at h; cases h
      | some m =>
        rw [hr] at h
        simp only [Option.map_some, Option.some.injEq] at h
        subst h
        have := unhexL_len hr
        simp; omega
    · cases h

set_option maxRecDepth 100000 in
set_option maxHeartbeats 16000000 in
theorem add_turn {w2 W : World} {s : ScriptD} {pv : Option Addr} {nv cv : Nat} {k : Bs} {A : List Bs} {b o n cap : Nat} (hD : DIS w2 s (.slice pv nv cv) W) (hT : s.turns.length ≤ 4096) (hM : s.mod.length ≤ 65536) (hnv : nv = s.turns.length) (hc : ∀ i, i < n → W.cell? ⟨b, o + i, none⟩ = some (.string ⟨((k :: A)[i]?.getD []).toArray⟩)) (hn : n = (k :: A).length) (hcap : n ≤ cap) (hL : n ≤ 1000000) (hs : ∀ i, i < n → ((k :: A)[i]?.getD []).length ≤ 1000000) (hk : k ≠ wBytes) :
    Calls Tryz.prog 53 #[.pointer (some ⟨w2.heap.size, 0, none⟩), .slice (some ⟨b, o, none⟩) n cap] W (ADP w2 s (k :: A)) := by
  have c0 : W.cell? ⟨b, o, none⟩ = some (.string ⟨k.toArray⟩) := hc 0 (by rw [List.length_cons] at hn; omega)
  have hpos : (0 : Int) < (n : Int) := by rw [List.length_cons] at hn; omega
  have e0 : (k == [98, 121, 116, 101, 115]) = false := by rw [beq_eq_false_iff_ne]; exact hk
  have e1 : (k != [98, 121, 116, 101, 115]) = true := by rw [bne_iff_ne]; exact hk
  have SL : Hid (StrSl W (.slice (some ⟨b, o, none⟩) n cap) (k :: A)) := Lib.hid (.inr ⟨b, o, cap, by rw [hn], by rw [← hn]; exact hcap, fun i hi => hc i (by rw [hn]; exact hi)⟩)
  have RD := Lib.hid (refRead_any SL.out (by simp) (by rw [← hn]; exact hL) (fun i hi => hs i (by rw [hn]; exact hi)))
  have HA : Hid (addS s (k :: A) = turnS s (k :: A)) := Lib.hid (by unfold addS; exact if_neg (fun h => hk (Option.some.inj h)))
  have HT := Lib.hid hT
  have HNV := Lib.hid hnv
  have DD := Lib.hid hD
  clear hD hc hn hcap hL hs hk hT hM hnv
  go_enter Tryz.func53, Tryz.ntmps53
  go_wp2_with fail
  refine RD.out.mono ?_
  rintro e w5 ⟨hp, t5⟩
  have D5 := Lib.hid (DD.out.turn t5)
  clear t5 c0
  cases hr : readT (k :: A) with
  | error c =>
    rw [hr] at hp
    obtain ⟨rfl, hc0⟩ := hp
    have HR : Hid (addS s (k :: A) = .error c) := Lib.hid (by rw [HA.out, turnS_read, hr])
    have hcz : decide (c = 0) = false := decide_eq_false hc0
    have hcz2 : (c == 0) = false := by rw [beq_eq_false_iff_ne]; exact hc0
    have HC0 := Lib.hid hc0
    clear hr hc0
    go_upto_region 5 with (fail)
    generalize hW6 : World.alloc w5 _ = w6
    obtain ⟨b5, t6⟩ := alloc1 hW6
    have B5 := Lib.hid b5
    have D6 := Lib.hid (D5.out.turn t6)
    clear hW6 b5 t6
    have TD : Hid (Turn Nn w6 w6.drew) := Lib.hid ((Turn.refl Nn w6).drew)
    obtain ⟨px, nx, cx, W', hrun, e5, e6, hDI, hk1, hk2⟩ := push_more (k := 0) (a := 0) (c := 0) (D6.out.turn TD.out) HT.out 24
    have B5d : w6.drew.heap[w5.heap.size]? = some (.cells #[.int .i64 0, .int .i64 0, .int .i64 0] 60) := (TD.out.block _ (heap_lt B5.out) (fun h => h)).trans B5.out
    have hb5 : w5.heap.size ≠ w2.heap.size := by have := heap_lt D5.out.blk; omega
    have hvb : (Value.slice pv nv cv).ownBlock ≠ some w5.heap.size := fun e => by have := (D5.out.own.lt _ e).2; omega
    have A0 : Hid (AS w5.heap.size 0 0 0 w6.drew) := Lib.hid (AS.of B5d)
    have A1 : Hid (AS w5.heap.size 0 0 0 (w6.drew.alloc (.cells #[.int .i64 0, .int .i64 0, .int .i64 0] 60))) := Lib.hid (AS.of ((((Turn.refl Nn w6.drew).alloc _).block _ (heap_lt B5d) (fun h => h)).trans B5d))
    have A2 : Hid (AS w5.heap.size 0 0 0 W') := Lib.hid (AS.of ((hk1 _ (heap_lt B5d) hvb).trans B5d))
    have A3 : Hid (AS w5.heap.size 0 0 0 (W'.setCell ⟨w2.heap.size, 5, none⟩ (.slice px nx cx))) := Lib.hid (AS.of ((hk2 _ (heap_lt B5d) hvb hb5).trans B5d))
    have C5 : Hid (w6.drew.cell? ⟨w2.heap.size, 5, none⟩ = some (.slice pv nv cv)) := Lib.hid (by rw [cell_blk (D6.out.turn TD.out).blk]; rfl)
    have C5a : Hid ((w6.drew.alloc (.cells #[.int .i64 0, .int .i64 0, .int .i64 0] 60)).cell? ⟨w2.heap.size, 5, none⟩ = some (.slice pv nv cv)) := Lib.hid (cell_turn ((Turn.refl Nn w6.drew).alloc _) C5.out)
    have HRUN := Lib.hid hrun
    have E5 := Lib.hid e5
    have E6 := Lib.hid e6
    have HD := Lib.hid hDI
    clear hrun e5 e6 hDI hk1 hk2 B5d hb5 hvb
    refine held_begin (AS w5.heap.size 0 0 0) (by kernel_rfl) ?_
    generalize hwd : World.drew w6 = wd
    rw [hwd] at A0 A1 C5 C5a HRUN
    clear hwd
    refine held_take 0 ?_ rfl (by kernel_rfl) (by kernel_rfl) (by kernel_rfl) (fun _ _ _ h => h) (Or.inl ⟨by kernel_rfl, ?_⟩) A0.out ?_
    rotate_left 1
    · intro u hu; obtain ⟨y1, y2, y3⟩ := hu; go_simp; first | done | with_reducible rfl
    try simp only [Act.put, List.getElem_toArray, List.getElem_cons_succ, List.getElem_cons_zero, List.setIfInBounds_toArray, List.set_cons_succ, List.set_cons_zero]
    refine held_take 1 ?_ rfl (by kernel_rfl) (by kernel_rfl) (by kernel_rfl) (fun _ _ _ h => h) (Or.inl ⟨by kernel_rfl, ?_⟩) A0.out ?_
    rotate_left 1
    · intro u hu; obtain ⟨y1, y2, y3⟩ := hu; go_simp; first | done | with_reducible rfl
    try simp only [Act.put, List.getElem_toArray, List.getElem_cons_succ, List.getElem_cons_zero, List.setIfInBounds_toArray, List.set_cons_succ, List.set_cons_zero]
    refine held_take 2 ?_ rfl (by kernel_rfl) (by kernel_rfl) (by kernel_rfl) (fun _ _ _ h => h) (Or.inl ⟨by kernel_rfl, ?_⟩) A0.out ?_
    rotate_left 1
    · intro u hu; obtain ⟨y1, y2, y3⟩ := hu; go_simp; first | done | with_reducible rfl
    try simp only [Act.put, List.getElem_toArray, List.getElem_cons_succ, List.getElem_cons_zero, List.setIfInBounds_toArray, List.set_cons_succ, List.set_cons_zero]
    refine held_take 3 ?_ rfl (by kernel_rfl) (by kernel_rfl) (by kernel_rfl) (fun _ _ _ h => h) (Or.inl ⟨by kernel_rfl, ?_⟩) A0.out ?_
    rotate_left 1
    · intro u hu; obtain ⟨y1, y2, y3⟩ := hu; go_simp; first | done | with_reducible rfl
    try simp only [Act.put, List.getElem_toArray, List.getElem_cons_succ, List.getElem_cons_zero, List.setIfInBounds_toArray, List.set_cons_succ, List.set_cons_zero]
    refine held_take 5 ?_ rfl (by kernel_rfl) (by kernel_rfl) (by kernel_rfl) (fun _ _ _ h => h) (Or.inl ⟨by kernel_rfl, ?_⟩) A0.out ?_
    rotate_left 1
    · intro u hu; obtain ⟨y1, y2, y3⟩ := hu; go_simp; first | done | with_reducible rfl
    try simp only [Act.put, List.getElem_toArray, List.getElem_cons_succ, List.getElem_cons_zero, List.setIfInBounds_toArray, List.set_cons_succ, List.set_cons_zero]
    refine held_pair 4 6 (by kernel_rfl) rfl rfl (by kernel_rfl) (by kernel_rfl) (fun K hK => ?_) (fun K hK => ?_)
    · have e5 := C5.out
      go_simp
      refine hK _ _ A0.out ?_
      clear hK K e5
      try simp only [Act.put, List.getElem_toArray, List.getElem_cons_succ, List.getElem_cons_zero, List.setIfInBounds_toArray, List.set_cons_succ, List.set_cons_zero]
      refine held_one 6 (by kernel_rfl) rfl (by kernel_rfl) (fun K hK => ?_)
      go_simp
      refine hK _ _ A1.out ?_
      clear hK K
      try simp only [Act.put, List.getElem_toArray, List.getElem_cons_succ, List.getElem_cons_zero, List.setIfInBounds_toArray, List.set_cons_succ, List.set_cons_zero]
      refine held_one 7 (by kernel_rfl) rfl (by kernel_rfl) (fun K hK => ?_)
      refine oper_append_eq _ _ 24 rfl _ _ rfl rfl HRUN.out ?_
      refine hK _ _ A2.out ?_
      clear hK K
      try simp only [Act.put, List.getElem_toArray, List.getElem_cons_succ, List.getElem_cons_zero, List.setIfInBounds_toArray, List.set_cons_succ, List.set_cons_zero]
      refine held_take 8 ?_ rfl (by kernel_rfl) (by kernel_rfl) (by kernel_rfl) (fun _ _ _ h => h) (Or.inl ⟨by kernel_rfl, ?_⟩) A2.out ?_
      rotate_left 1
      · intro u hu; obtain ⟨y1, y2, y3⟩ := hu; go_simp; first | done | with_reducible rfl
      try simp only [Act.put, List.getElem_toArray, List.getElem_cons_succ, List.getElem_cons_zero, List.setIfInBounds_toArray, List.set_cons_succ, List.set_cons_zero]
      refine held_take 9 ?_ rfl (by kernel_rfl) (by kernel_rfl) (by kernel_rfl) (fun _ _ _ h => h) (Or.inl ⟨by kernel_rfl, ?_⟩) A2.out ?_
      rotate_left 1
      · intro u hu; obtain ⟨y1, y2, y3⟩ := hu; go_simp; first | done | with_reducible rfl
      try simp only [Act.put, List.getElem_toArray, List.getElem_cons_succ, List.getElem_cons_zero, List.setIfInBounds_toArray, List.set_cons_succ, List.set_cons_zero]
      refine held_one 10 (by kernel_rfl) rfl (by kernel_rfl) (fun K hK => ?_)
      have e5 := E5.out
      have e6 := E6.out
      go_simp
      refine hK _ _ A3.out ?_
      clear hK K e5 e6
      try simp only [Act.put, List.getElem_toArray, List.getElem_cons_succ, List.getElem_cons_zero, List.setIfInBounds_toArray, List.set_cons_succ, List.set_cons_zero]
      refine wpAnyH_done (by kernel_rfl) ?_ _
      go_wp2_with fail
      go_ret
      exact ADP.err HR.out HC0.out HD.out.t
    · go_simp
      refine hK _ _ A1.out ?_
      clear hK K
      try simp only [Act.put, List.getElem_toArray, List.getElem_cons_succ, List.getElem_cons_zero, List.setIfInBounds_toArray, List.set_cons_succ, List.set_cons_zero]
      refine held_one 4 (by kernel_rfl) rfl (by kernel_rfl) (fun K hK => ?_)
      have e5 := C5a.out
      go_simp
      refine hK _ _ A1.out ?_
      clear hK K e5
      try simp only [Act.put, List.getElem_toArray, List.getElem_cons_succ, List.getElem_cons_zero, List.setIfInBounds_toArray, List.set_cons_succ, List.set_cons_zero]
      refine held_one 7 (by kernel_rfl) rfl (by kernel_rfl) (fun K hK => ?_)
      refine oper_append_eq _ _ 24 rfl _ _ rfl rfl HRUN.out ?_
      refine hK _ _ A2.out ?_
      clear hK K
      try simp only [Act.put, List.getElem_toArray, List.getElem_cons_succ, List.getElem_cons_zero, List.setIfInBounds_toArray, List.set_cons_succ, List.set_cons_zero]
      refine held_take 8 ?_ rfl (by kernel_rfl) (by kernel_rfl) (by kernel_rfl) (fun _ _ _ h => h) (Or.inl ⟨by kernel_rfl, ?_⟩) A2.out ?_
      rotate_left 1
      · intro u hu; obtain ⟨y1, y2, y3⟩ := hu; go_simp; first | done | with_reducible rfl
      try simp only [Act.put, List.getElem_toArray, List.getElem_cons_succ, List.getElem_cons_zero, List.setIfInBounds_toArray, List.set_cons_succ, List.set_cons_zero]
      refine held_take 9 ?_ rfl (by kernel_rfl) (by kernel_rfl) (by kernel_rfl) (fun _ _ _ h => h) (Or.inl ⟨by kernel_rfl, ?_⟩) A2.out ?_
      rotate_left 1
      · intro u hu; obtain ⟨y1, y2, y3⟩ := hu; go_simp; first | done | with_reducible rfl
      try simp only [Act.put, List.getElem_toArray, List.getElem_cons_succ, List.getElem_cons_zero, List.setIfInBounds_toArray, List.set_cons_succ, List.set_cons_zero]
      refine held_one 10 (by kernel_rfl) rfl (by kernel_rfl) (fun K hK => ?_)
      have e5 := E5.out
      have e6 := E6.out
      go_simp
      refine hK _ _ A3.out ?_
      clear hK K e5 e6
      try simp only [Act.put, List.getElem_toArray, List.getElem_cons_succ, List.getElem_cons_zero, List.setIfInBounds_toArray, List.set_cons_succ, List.set_cons_zero]
      refine wpAnyH_done (by kernel_rfl) ?_ _
      go_wp2_with fail
      go_ret
      exact ADP.err HR.out HC0.out HD.out.t
  | ok tt =>
    obtain ⟨kk, ka, kc⟩ := tt
    rw [hr] at hp
    obtain rfl := hp
    by_cases hf : 4096 ≤ s.turns.length
    · have HR : Hid (addS s (k :: A) = .error 4) := Lib.hid (by rw [HA.out, turnS_read, hr]; simp only; rw [if_pos hf])
      have hf2 : (4096 : Int) ≤ (nv : Int) := by have := HNV.out; omega
      have t6 : Turn Nn w5 (w5.alloc (.cells #[.int .i64 kk, .int .i64 ka, .int .i64 kc] 60)) := (Turn.refl Nn w5).alloc _
      have T6 := Lib.hid (D5.out.t.trans t6)
      have i5 : (w5.alloc (.cells #[.int .i64 kk, .int .i64 ka, .int .i64 kc] 60)).cell? ⟨w2.heap.size, 5, none⟩ = some (.slice pv nv cv) := cell_turn t6 (by rw [cell_blk D5.out.blk]; rfl)
      clear hr hf t6
      go_wp2_with fail
      go_ret
      exact ADP.err HR.out (by decide) T6.out
    · have HR : Hid (addS s (k :: A) = .ok { s with turns := s.turns ++ [⟨kk, ka, kc⟩] }) := Lib.hid (by rw [HA.out, turnS_read, hr]; simp only; rw [if_neg hf])
      have hf2 : ¬ (4096 : Int) ≤ (nv : Int) := by have := HNV.out; omega
      have t6 : Turn Nn w5 (w5.alloc (.cells #[.int .i64 kk, .int .i64 ka, .int .i64 kc] 60)) := (Turn.refl Nn w5).alloc _
      have i5 : (w5.alloc (.cells #[.int .i64 kk, .int .i64 ka, .int .i64 kc] 60)).cell? ⟨w2.heap.size, 5, none⟩ = some (.slice pv nv cv) := cell_turn t6 (by rw [cell_blk D5.out.blk]; rfl)
      clear hr hf t6
      go_upto_region 5 with (fail)
      clear i5
      generalize hW6 : World.alloc w5 _ = w6
      obtain ⟨b5, t6⟩ := alloc1 hW6
      have B5 := Lib.hid b5
      have D6 := Lib.hid (D5.out.turn t6)
      clear hW6 b5 t6 hf2
      have TD : Hid (Turn Nn w6 w6.drew) := Lib.hid ((Turn.refl Nn w6).drew)
      obtain ⟨px, nx, cx, W', hrun, e5, e6, hDI, hk1, hk2⟩ := push_more (k := kk) (a := ka) (c := kc) (D6.out.turn TD.out) HT.out 24
      have B5d : w6.drew.heap[w5.heap.size]? = some (.cells #[.int .i64 kk, .int .i64 ka, .int .i64 kc] 60) := (TD.out.block _ (heap_lt B5.out) (fun h => h)).trans B5.out
      have hb5 : w5.heap.size ≠ w2.heap.size := by have := heap_lt D5.out.blk; omega
      have hvb : (Value.slice pv nv cv).ownBlock ≠ some w5.heap.size := fun e => by have := (D5.out.own.lt _ e).2; omega
      have A0 : Hid (AS w5.heap.size kk ka kc w6.drew) := Lib.hid (AS.of B5d)
      have A1 : Hid (AS w5.heap.size kk ka kc (w6.drew.alloc (.cells #[.int .i64 kk, .int .i64 ka, .int .i64 kc] 60))) := Lib.hid (AS.of ((((Turn.refl Nn w6.drew).alloc _).block _ (heap_lt B5d) (fun h => h)).trans B5d))
      have A2 : Hid (AS w5.heap.size kk ka kc W') := Lib.hid (AS.of ((hk1 _ (heap_lt B5d) hvb).trans B5d))
      have A3 : Hid (AS w5.heap.size kk ka kc (W'.setCell ⟨w2.heap.size, 5, none⟩ (.slice px nx cx))) := Lib.hid (AS.of ((hk2 _ (heap_lt B5d) hvb hb5).trans B5d))
      have C5 : Hid (w6.drew.cell? ⟨w2.heap.size, 5, none⟩ = some (.slice pv nv cv)) := Lib.hid (by rw [cell_blk (D6.out.turn TD.out).blk]; rfl)
      have C5a : Hid ((w6.drew.alloc (.cells #[.int .i64 kk, .int .i64 ka, .int .i64 kc] 60)).cell? ⟨w2.heap.size, 5, none⟩ = some (.slice pv nv cv)) := Lib.hid (cell_turn ((Turn.refl Nn w6.drew).alloc _) C5.out)
      have HRUN := Lib.hid hrun
      have E5 := Lib.hid e5
      have E6 := Lib.hid e6
      have HD := Lib.hid hDI
      clear hrun e5 e6 hDI hk1 hk2 B5d hb5 hvb
      refine held_begin (AS w5.heap.size kk ka kc) (by kernel_rfl) ?_
      generalize hwd : World.drew w6 = wd
      rw [hwd] at A0 A1 C5 C5a HRUN
      clear hwd
      refine held_take 0 ?_ rfl (by kernel_rfl) (by kernel_rfl) (by kernel_rfl) (fun _ _ _ h => h) (Or.inl ⟨by kernel_rfl, ?_⟩) A0.out ?_
      rotate_left 1
      · intro u hu; obtain ⟨y1, y2, y3⟩ := hu; go_simp; first | done | with_reducible rfl
      try simp only [Act.put, List.getElem_toArray, List.getElem_cons_succ, List.getElem_cons_zero, List.setIfInBounds_toArray, List.set_cons_succ, List.set_cons_zero]
      refine held_take 1 ?_ rfl (by kernel_rfl) (by kernel_rfl) (by kernel_rfl) (fun _ _ _ h => h) (Or.inl ⟨by kernel_rfl, ?_⟩) A0.out ?_
      rotate_left 1
      · intro u hu; obtain ⟨y1, y2, y3⟩ := hu; go_simp; first | done | with_reducible rfl
      try simp only [Act.put, List.getElem_toArray, List.getElem_cons_succ, List.getElem_cons_zero, List.setIfInBounds_toArray, List.set_cons_succ, List.set_cons_zero]
      refine held_take 2 ?_ rfl (by kernel_rfl) (by kernel_rfl) (by kernel_rfl) (fun _ _ _ h => h) (Or.inl ⟨by kernel_rfl, ?_⟩) A0.out ?_
      rotate_left 1
      · intro u hu; obtain ⟨y1, y2, y3⟩ := hu; go_simp; first | done | with_reducible rfl
      try simp only [Act.put, List.getElem_toArray, List.getElem_cons_succ, List.getElem_cons_zero, List.setIfInBounds_toArray, List.set_cons_succ, List.set_cons_zero]
      refine held_take 3 ?_ rfl (by kernel_rfl) (by kernel_rfl) (by kernel_rfl) (fun _ _ _ h => h) (Or.inl ⟨by kernel_rfl, ?_⟩) A0.out ?_
      rotate_left 1
      · intro u hu; obtain ⟨y1, y2, y3⟩ := hu; go_simp; first | done | with_reducible rfl
      try simp only [Act.put, List.getElem_toArray, List.getElem_cons_succ, List.getElem_cons_zero, List.setIfInBounds_toArray, List.set_cons_succ, List.set_cons_zero]
      refine held_take 5 ?_ rfl (by kernel_rfl) (by kernel_rfl) (by kernel_rfl) (fun _ _ _ h => h) (Or.inl ⟨by kernel_rfl, ?_⟩) A0.out ?_
      rotate_left 1
      · intro u hu; obtain ⟨y1, y2, y3⟩ := hu; go_simp; first | done | with_reducible rfl
      try simp only [Act.put, List.getElem_toArray, List.getElem_cons_succ, List.getElem_cons_zero, List.setIfInBounds_toArray, List.set_cons_succ, List.set_cons_zero]
      refine held_pair 4 6 (by kernel_rfl) rfl rfl (by kernel_rfl) (by kernel_rfl) (fun K hK => ?_) (fun K hK => ?_)
      · have e5 := C5.out
        go_simp
        refine hK _ _ A0.out ?_
        clear hK K e5
        try simp only [Act.put, List.getElem_toArray, List.getElem_cons_succ, List.getElem_cons_zero, List.setIfInBounds_toArray, List.set_cons_succ, List.set_cons_zero]
        refine held_one 6 (by kernel_rfl) rfl (by kernel_rfl) (fun K hK => ?_)
        go_simp
        refine hK _ _ A1.out ?_
        clear hK K
        try simp only [Act.put, List.getElem_toArray, List.getElem_cons_succ, List.getElem_cons_zero, List.setIfInBounds_toArray, List.set_cons_succ, List.set_cons_zero]
        refine held_one 7 (by kernel_rfl) rfl (by kernel_rfl) (fun K hK => ?_)
        refine oper_append_eq _ _ 24 rfl _ _ rfl rfl HRUN.out ?_
        refine hK _ _ A2.out ?_
        clear hK K
        try simp only [Act.put, List.getElem_toArray, List.getElem_cons_succ, List.getElem_cons_zero, List.setIfInBounds_toArray, List.set_cons_succ, List.set_cons_zero]
        refine held_take 8 ?_ rfl (by kernel_rfl) (by kernel_rfl) (by kernel_rfl) (fun _ _ _ h => h) (Or.inl ⟨by kernel_rfl, ?_⟩) A2.out ?_
        rotate_left 1
        · intro u hu; obtain ⟨y1, y2, y3⟩ := hu; go_simp; first | done | with_reducible rfl
        try simp only [Act.put, List.getElem_toArray, List.getElem_cons_succ, List.getElem_cons_zero, List.setIfInBounds_toArray, List.set_cons_succ, List.set_cons_zero]
        refine held_take 9 ?_ rfl (by kernel_rfl) (by kernel_rfl) (by kernel_rfl) (fun _ _ _ h => h) (Or.inl ⟨by kernel_rfl, ?_⟩) A2.out ?_
        rotate_left 1
        · intro u hu; obtain ⟨y1, y2, y3⟩ := hu; go_simp; first | done | with_reducible rfl
        try simp only [Act.put, List.getElem_toArray, List.getElem_cons_succ, List.getElem_cons_zero, List.setIfInBounds_toArray, List.set_cons_succ, List.set_cons_zero]
        refine held_one 10 (by kernel_rfl) rfl (by kernel_rfl) (fun K hK => ?_)
        have e5 := E5.out
        have e6 := E6.out
        go_simp
        refine hK _ _ A3.out ?_
        clear hK K e5 e6
        try simp only [Act.put, List.getElem_toArray, List.getElem_cons_succ, List.getElem_cons_zero, List.setIfInBounds_toArray, List.set_cons_succ, List.set_cons_zero]
        refine wpAnyH_done (by kernel_rfl) ?_ _
        go_wp2_with fail
        go_ret
        exact ADP.good HR.out HD.out
      · go_simp
        refine hK _ _ A1.out ?_
        clear hK K
        try simp only [Act.put, List.getElem_toArray, List.getElem_cons_succ, List.getElem_cons_zero, List.setIfInBounds_toArray, List.set_cons_succ, List.set_cons_zero]
        refine held_one 4 (by kernel_rfl) rfl (by kernel_rfl) (fun K hK => ?_)
        have e5 := C5a.out
        go_simp
        refine hK _ _ A1.out ?_
        clear hK K e5
        try simp only [Act.put, List.getElem_toArray, List.getElem_cons_succ, List.getElem_cons_zero, List.setIfInBounds_toArray, List.set_cons_succ, List.set_cons_zero]
        refine held_one 7 (by kernel_rfl) rfl (by kernel_rfl) (fun K hK => ?_)
        refine oper_append_eq _ _ 24 rfl _ _ rfl rfl HRUN.out ?_
        refine hK _ _ A2.out ?_
        clear hK K
        try simp only [Act.put, List.getElem_toArray, List.getElem_cons_succ, List.getElem_cons_zero, List.setIfInBounds_toArray, List.set_cons_succ, List.set_cons_zero]
        refine held_take 8 ?_ rfl (by kernel_rfl) (by kernel_rfl) (by kernel_rfl) (fun _ _ _ h => h) (Or.inl ⟨by kernel_rfl, ?_⟩) A2.out ?_
        rotate_left 1
        · intro u hu; obtain ⟨y1, y2, y3⟩ := hu; go_simp; first | done | with_reducible rfl
        try simp only [Act.put, List.getElem_toArray, List.getElem_cons_succ, List.getElem_cons_zero, List.setIfInBounds_toArray, List.set_cons_succ, List.set_cons_zero]
        refine held_take 9 ?_ rfl (by kernel_rfl) (by kernel_rfl) (by kernel_rfl) (fun _ _ _ h => h) (Or.inl ⟨by kernel_rfl, ?_⟩) A2.out ?_
        rotate_left 1
        · intro u hu; obtain ⟨y1, y2, y3⟩ := hu; go_simp; first | done | with_reducible rfl
        try simp only [Act.put, List.getElem_toArray, List.getElem_cons_succ, List.getElem_cons_zero, List.setIfInBounds_toArray, List.set_cons_succ, List.set_cons_zero]
        refine held_one 10 (by kernel_rfl) rfl (by kernel_rfl) (fun K hK => ?_)
        have e5 := E5.out
        have e6 := E6.out
        go_simp
        refine hK _ _ A3.out ?_
        clear hK K e5 e6
        try simp only [Act.put, List.getElem_toArray, List.getElem_cons_succ, List.getElem_cons_zero, List.setIfInBounds_toArray, List.set_cons_succ, List.set_cons_zero]
        refine wpAnyH_done (by kernel_rfl) ?_ _
        go_wp2_with fail
        go_ret
        exact ADP.good HR.out HD.out

set_option maxRecDepth 100000 in
set_option maxHeartbeats 16000000 in
theorem add_bytes {w2 W : World} {s : ScriptD} {pv : Option Addr} {nv cv : Nat} {k : Bs} {A : List Bs} {b o n cap : Nat} (hD : DIS w2 s (.slice pv nv cv) W) (hT : s.turns.length ≤ 4096) (hM : s.mod.length ≤ 65536) (hnv : nv = s.turns.length) (hc : ∀ i, i < n → W.cell? ⟨b, o + i, none⟩ = some (.string ⟨((k :: A)[i]?.getD []).toArray⟩)) (hn : n = (k :: A).length) (hcap : n ≤ cap) (hL : n ≤ 1000000) (hs : ∀ i, i < n → ((k :: A)[i]?.getD []).length ≤ 1000000) (hk : k = wBytes) :
    Calls Tryz.prog 53 #[.pointer (some ⟨w2.heap.size, 0, none⟩), .slice (some ⟨b, o, none⟩) n cap] W (ADP w2 s (k :: A)) := by
  subst hk
  have c0 : W.cell? ⟨b, o, none⟩ = some (.string ⟨#[98, 121, 116, 101, 115]⟩) := hc 0 (by rw [List.length_cons] at hn; omega)
  have hpos : (0 : Int) < (n : Int) := by rw [List.length_cons] at hn; omega
  have i4 : W.cell? ⟨w2.heap.size, 4, none⟩ = some (.string (BT s.mod)) := by rw [cell_blk hD.blk]; rfl
  have i5 : W.cell? ⟨w2.heap.size, 5, none⟩ = some (.slice pv nv cv) := by rw [cell_blk hD.blk]; rfl
  have f4 := frozen_blk (o := 4) hD.blk
  have HA : Hid (addS s (wBytes :: A) = if s.turns = [] then bytesS s (wBytes :: A) else .error 5) := Lib.hid (by unfold addS; exact if_pos rfl)
  have DD := Lib.hid hD
  obtain ⟨M, hMM⟩ : ∃ M, BT s.mod = M := ⟨_, rfl⟩
  have hMs : M.size = s.mod.length := by rw [← hMM, BT_size]
  rw [hMM] at i4
  have HMM := Lib.hid hMM
  have HMS := Lib.hid hMs
  have hMl : M.size ≤ 65536 := by omega
  by_cases h2 : n = 2
  · subst h2
    obtain ⟨d, rfl⟩ : ∃ d, A = [d] := by
      match A, hn with
      | [d], _ => exact ⟨d, rfl⟩
    have c1 : W.cell? ⟨b, o + 1, none⟩ = some (.string ⟨d.toArray⟩) := hc 1 (by omega)
    have hdl : d.length ≤ 1000000 := hs 1 (by omega)
    by_cases ht : s.turns = []
    · have hnv0 : nv = 0 := by rw [hnv, ht]; rfl
      subst hnv0
      have HA2 := Lib.hid ((HA.out.trans (if_pos ht)).trans (bytesS_two s wBytes d))
      by_cases h24 : s.mod.length % 24 = 0
      · have hm24 : (M.size : Int) % 24 = 0 := by omega
        have hm24t : (M.size : Int).tmod 24 = 0 := by rw [Int.tmod_eq_emod_of_nonneg (by omega)]; exact hm24
        have HU := Lib.hid (unhex_any (l := d) hdl W)
        have HA3 := Lib.hid (HA2.out.trans (if_neg (by omega)))
        obtain ⟨D, hDD⟩ : ∃ D : ByteArray, ⟨d.toArray⟩ = D := ⟨_, rfl⟩
        rw [hDD] at c1
        have HU2 : Hid (Calls Tryz.prog 73 #[.string D] W (UXP W d)) := Lib.hid (by have := HU.out; unfold BT at this; rw [hDD] at this; exact this)
        clear hD hc hn hcap hL hs hT hM hdl hDD hMM hMs h24 HU ht HA HA2 hnv
        cases hu : unhexR d with
        | none =>
          have HR : Hid (addS s [wBytes, d] = .error 5) := Lib.hid (by rw [HA3.out, hu])
          go_enter Tryz.func53, Tryz.ntmps53
          go_wp2_with fail
          refine HU2.out.mono ?_
          rintro e w5 ⟨rfl, t5⟩
          have D5 := Lib.hid (DD.out.turn t5)
          rw [hu]
          clear t5 hu
          go_wp2_with fail
          go_ret
          exact ADP.err HR.out (by decide) D5.out.t
        | some bb =>
          have HBB : Hid (addS s [wBytes, d] = if 65536 < s.mod.length + bb.length then .error 4 else .ok { s with mod := s.mod ++ bb }) := Lib.hid (by rw [HA3.out, hu])
          have hbl : bb.length ≤ 48 := by
            unfold unhexR at hu
            split at hu
            · cases hu
            · have := unhexL_len hu; omega
          go_enter Tryz.func53, Tryz.ntmps53
          go_wp2_with fail
          refine HU2.out.mono ?_
          rintro e w5 ⟨rfl, t5⟩
          have D5 := Lib.hid (DD.out.turn t5)
          rw [hu]
          simp only [Option.getD_some, Option.isSome_some]
          clear t5 hu i4 i5 f4 c0 c1
          have i4 : w5.cell? ⟨w2.heap.size, 4, none⟩ = some (.string M) := by rw [cell_blk D5.out.blk, ← HMM.out]; rfl
          have f4 := frozen_blk (o := 4) D5.out.blk
          obtain ⟨E, hE⟩ : ∃ E, BT bb = E := ⟨_, rfl⟩
          have hEs : E.size = bb.length := by rw [← hE, BT_size]
          have HE := Lib.hid hE
          rw [hE]
          by_cases hbig : 65536 < s.mod.length + bb.length
          · have HR := Lib.hid (HBB.out.trans (if_pos hbig))
            have hb2 : (65536 : Int) < (M.size : Int) + (E.size : Int) := by have := HMS.out; omega
            have hE2 : E.size ≤ 48 := by omega
            clear hbig hE hEs
            go_wp2_with fail
            go_ret
            exact ADP.err HR.out (by decide) D5.out.t
          · have HR := Lib.hid (HBB.out.trans (if_neg hbig))
            have hb2 : ¬ (65536 : Int) < (M.size : Int) + (E.size : Int) := by have := HMS.out; omega
            have hE2 : E.size ≤ 48 := by omega
            have hadd : ∀ W : World, (Op.stringOp .add M E).run Tryz.prog W = .ok (.string (BT (s.mod ++ bb))) W := fun W => by
              rw [← HMM.out, ← HE.out]
              exact str_add rfl (by have := HMS.out; omega) W
            obtain ⟨G, hG⟩ : ∃ G, BT (s.mod ++ bb) = G := ⟨_, rfl⟩
            rw [hG] at hadd
            have HG := Lib.hid hG
            clear hbig hE hEs hG
            go_wp2_with fail
            go_ret
            refine ADP.good HR.out (pa := pv) (n := 0) (cap := cv) ?_
            have := D5.out.set4 (.string G)
            rw [← HG.out] at this ⊢
            exact this
      · have HR := Lib.hid (HA2.out.trans (if_pos (by omega)))
        have hm24 : ¬ (M.size : Int) % 24 = 0 := by omega
        have hm24t : ¬ (M.size : Int).tmod 24 = 0 := by rw [Int.tmod_eq_emod_of_nonneg (by omega)]; exact hm24
        have hm24b : ((M.size : Int) % 24 == 0) = false := by rw [beq_eq_false_iff_ne]; exact hm24
        have hm24c : ((M.size : Int) % 24 != 0) = true := by rw [bne_iff_ne]; exact hm24
        clear hD hc hn hcap hL hs hT hM hMM hMs h24 ht hm24 hm24t hnv
        go_enter Tryz.func53, Tryz.ntmps53
        go_wp2_with fail
        go_ret
        exact ADP.err HR.out (by decide) DD.out.t
    · have HR := Lib.hid (HA.out.trans (if_neg ht))
      have hpos2 : (0 : Int) < (nv : Int) := by
        have := List.length_pos_iff.2 ht
        omega
      clear hD hc hn hcap hL hs hT hM hMM hMs ht hnv
      go_enter Tryz.func53, Tryz.ntmps53
      go_wp2_with fail
      go_ret
      exact ADP.err HR.out (by decide) DD.out.t
  · have HR : Hid (addS s (wBytes :: A) = .error 5) := Lib.hid (by
      rw [HA.out]
      split
      · unfold bytesS
        match A, hn with
        | [], _ => rfl
        | [d], hn => simp at hn; omega
        | x :: y :: z, _ => rfl
      · rfl)
    have hn2 : ((n : Int) == 2) = false := by rw [beq_eq_false_iff_ne]; omega
    have hn3 : ((n : Int) != 2) = true := by rw [bne_iff_ne]; omega
    clear hD hc hn hcap hs hT hM hMM hMs h2 hnv
    go_enter Tryz.func53, Tryz.ntmps53
    go_wp2_with fail
    go_ret
    exact ADP.err HR.out (by decide) DD.out.t

theorem refAdd_any {w2 W : World} {s : ScriptD} {pv : Option Addr} {nv cv : Nat} {v : Value} {L : List Bs} (hD : DIS w2 s (.slice pv nv cv) W) (hT : s.turns.length ≤ 4096) (hM : s.mod.length ≤ 65536) (hv : StrSl W v L) (hne : L ≠ []) (hL : L.length ≤ 1000000) (hs : ∀ i, i < L.length → (L[i]?.getD []).length ≤ 1000000) :
    Calls Tryz.prog 53 #[.pointer (some ⟨w2.heap.size, 0, none⟩), v] W (ADP w2 s L) := by
  have hnv : nv = s.turns.length := by
    rcases hD.own.2 with ⟨e, e2⟩ | ⟨_, _, _, e, _⟩
    · cases e; exact e2.symm
    · cases e; rfl
  rcases hv with ⟨h, _⟩ | ⟨b, o, cap, rfl, hcap, hc⟩
  · exact absurd h hne
  · obtain ⟨k, A, rfl⟩ : ∃ k A, L = k :: A := by
      cases L with
      | nil => exact absurd rfl hne
      | cons k A => exact ⟨k, A, rfl⟩
    by_cases hk : k = wBytes
    · exact add_bytes hD hT hM hnv hc rfl hcap hL hs hk
    · exact add_turn hD hT hM hnv hc rfl hcap hL hs hk


def phO (a : Nat) (s : ScriptD) : Nat := if a = 0 then 0 else if s.turns = [] then 1 else 2
/-- What is yet to be read, as the document has it. -/
def PG (r : Bs) (a : Nat) (s : ScriptD) : Except (Int × Nat) ScriptD := if r = [] ∧ a = 0 then .error (5, 0) else parseGo r a (phO a s) s

theorem PG_start (t : Bs) : PG t 0 zeroS = parseD t := by
  unfold PG parseD phO
  by_cases h : t = []
  · rw [if_pos ⟨h, rfl⟩, if_pos h]
  · rw [if_neg (fun e => h e.1), if_neg h]; rfl
theorem PG_end {a : Nat} (s : ScriptD) (h : a ≠ 0) : PG [] a s = .ok s := by
  unfold PG
  rw [if_neg (fun e => h e.2)]
  unfold parseGo
  rfl
theorem PG_cut {r : Bs} {a : Nat} {s : ScriptD} (h : ∀ c ∈ r, c ≠ 10) (hr : r ≠ [] ∨ a = 0) : PG r a s = .error (5, a) := by
  unfold PG
  by_cases h1 : r = [] ∧ a = 0
  · rw [if_pos h1, h1.2]
  · rw [if_neg h1]
    have hne : r ≠ [] := by
      rcases hr with h2 | h2
      · exact h2
      · exact fun e => h1 ⟨e, h2⟩
    unfold parseGo
    rw [if_neg hne]
    split
    · rfl
    · rename_i l q hc
      rw [cutL_none h] at hc
      cases hc
theorem PG_line {r l q : Bs} {a : Nat} {s : ScriptD} (hc : cutL r = some (l, q)) : PG r a s = match stepS (phO a s) s (spW l) with
    | .error e => .error (e, a)
    | .ok (ph', s') => parseGo q (a + 1) ph' s' := by
  have hne : r ≠ [] := by rintro rfl; cases hc
  unfold PG
  rw [if_neg (fun e => hne e.1)]
  rw [parseGo]
  rw [if_neg hne]
  split
  · rename_i h; rw [hc] at h; cases h
  · rename_i l' q' h
    rw [hc] at h
    cases h
    split <;> simp_all
theorem PG_next {q : Bs} {a ph : Nat} {s : ScriptD} (h : ph = phO (a + 1) s) : parseGo q (a + 1) ph s = PG q (a + 1) s := by
  unfold PG
  rw [if_neg (fun e => by omega), h]

theorem bytesS_turns {s s' : ScriptD} {L : List Bs} (h : bytesS s L = .ok s') : s'.turns = s.turns ∧ s'.mod.length ≤ 65536 := by
  unfold bytesS at h
  split at h
  · split at h
    · cases h
    · split at h
      · cases h
      · split at h
        · cases h
        · rename_i h1
          simp only [Except.ok.injEq] at h
          subst h
          refine ⟨rfl, ?_⟩
          simp; omega
  · cases h
theorem turnS_turns {s s' : ScriptD} {L : List Bs} (h : turnS s L = .ok s') : s'.turns ≠ [] ∧ s'.turns.length ≤ 4096 ∧ s'.mod = s.mod := by
  rw [turnS_read] at h
  split at h
  · cases h
  · split at h
    · cases h
    · rename_i h1
      simp only [Except.ok.injEq] at h
      subst h
      refine ⟨by simp, ?_, rfl⟩
      simp; omega
theorem addS_ok {s s' : ScriptD} {L : List Bs} (h : addS s L = .ok s') (h1 : s.turns.length ≤ 4096) (h2 : s.mod.length ≤ 65536) : s'.turns.length ≤ 4096 ∧ s'.mod.length ≤ 65536 := by
  unfold addS at h
  split at h
  · split at h
    · rename_i ht
      have := bytesS_turns h
      rw [this.1]; exact ⟨h1, this.2⟩
    · cases h
  · have := turnS_turns h
    rw [this.2.2]; exact ⟨this.2.1, h2⟩
theorem turnS_bytes (s : ScriptD) (A : List Bs) : turnS s (wBytes :: A) = .error 5 := by
  unfold turnS
  simp only
  cases numsL A with
  | none => rfl
  | some l =>
    simp only
    rw [if_neg (by decide), if_neg (by decide), if_neg (by decide), if_neg (by decide)]
theorem step_add {s : ScriptD} {L : List Bs} {a : Nat} (ha : a ≠ 0) : stepS (phO a s) s L = match addS s L with
    | .error c => .error c
    | .ok s' => .ok (phO (a + 1) s', s') := by
  unfold phO
  rw [if_neg ha]
  by_cases ht : s.turns = []
  · rw [if_pos ht]
    unfold stepS addS
    by_cases hb : L.head? = some wBytes
    · rw [if_neg (by decide), if_pos ⟨rfl, hb⟩, if_pos hb, if_pos ht]
      cases h : bytesS s L with
      | error c => rfl
      | ok s' =>
        have := (bytesS_turns h).1
        simp [Except.map, this, ht]
    · rw [if_neg (by decide), if_neg (fun h => hb h.2), if_neg hb]
      cases h : turnS s L with
      | error c => rfl
      | ok s' =>
        have := (turnS_turns h).1
        simp [Except.map, this]
  · rw [if_neg ht]
    unfold stepS addS
    rw [if_neg (by decide), if_neg (fun h => by cases h.1)]
    by_cases hb : L.head? = some wBytes
    · rw [if_pos hb, if_neg ht]
      obtain ⟨A, rfl⟩ : ∃ A, L = wBytes :: A := by
        cases L with
        | nil => cases hb
        | cons k A => simp only [List.head?_cons, Option.some.injEq] at hb; subst hb; exact ⟨A, rfl⟩
      rw [turnS_bytes]; rfl
    · rw [if_neg hb]
      cases h : turnS s L with
      | error c => rfl
      | ok s' =>
        have := (turnS_turns h).1
        simp [Except.map, this]
theorem step_mach {L : List Bs} : stepS (phO 0 zeroS) zeroS L = match machineS zeroS L with
    | .error c => .error c
    | .ok s' => .ok (1, s') := by
  unfold stepS phO
  rw [if_pos (by decide)]
  cases machineS zeroS L <;> rfl

/-- What the document's Parse answers. -/
def RPP (w : World) (t : Bs) (e : Ending) (w' : World) : Prop :=
  (match parseD t with
    | .ok s => ∃ v, e = .returned (.tuple #[.agg (scriptA s v), .agg #[.int .i64 0, .int .i64 0]]) ∧ TSl w' v s.turns ∧ s.turns.length ≤ 4096
    | .error (c, n) => e = .returned (.tuple #[.agg sZero, .agg #[.int .i64 c, .int .i64 n]]) ∧ c ≠ 0) ∧ Turn Nn w w'

theorem cells2m {W : World} {B : Nat} {x0 x1 : Value} {t1 : TypeId} (h1 : W.heap[B]? = some (.cells #[x0, x1] t1)) : W.cell? ⟨B, 0, none⟩ = some x0 ∧ W.cell? ⟨B, 1, none⟩ = some x1 :=
  ⟨by rw [cell_blk h1]; rfl, by rw [cell_blk h1]; rfl⟩
theorem rparse_res {W : World} {R F : Nat} {tmps : Array Value} {c0 c1 c2 c3 c4 c5 y z : Value} (h2 : tmps[2]?.getD undef = .pointer (some ⟨R, 0, none⟩)) (h3 : tmps[3]?.getD undef = .pointer (some ⟨F, 0, none⟩)) (hb : W.heap[R]? = some (.cells #[c0, c1, c2, c3, c4, c5] 26)) (hf : W.heap[F]? = some (.cells #[y, z] 54)) :
    (results Tryz.f33 tmps).run Tryz.prog W = .ok (.tuple #[.agg #[c0, c1, c2, c3, c4, c5], .agg #[y, z]]) W := by
  obtain ⟨d0, d1, d2, d3, d4, d5⟩ := cells6 hb
  obtain ⟨e0, e1⟩ := cells2m hf
  simp only [results, show Tryz.f33.results = #[.cell 2 26, .cell 3 54] from rfl]
  go_simp

def setR6 (W : World) (B : Nat) (x0 x1 x2 x3 x4 x5 : Value) : World := (((((W.setCell ⟨B, 0, none⟩ x0).setCell ⟨B, 1, none⟩ x1).setCell ⟨B, 2, none⟩ x2).setCell ⟨B, 3, none⟩ x3).setCell ⟨B, 4, none⟩ x4).setCell ⟨B, 5, none⟩ x5
def set2 (W : World) (B : Nat) (x y : Value) : World := (W.setCell ⟨B, 0, none⟩ x).setCell ⟨B, 1, none⟩ y
theorem end_blk {W : World} {R : Nat} {z0 z1 z2 z3 z4 z5 u0 u1 : Value} (h : W.heap[R]? = some (.cells #[z0, z1, z2, z3, z4, z5] 26)) (hf : W.heap[R + 1]? = some (.cells #[u0, u1] 54)) (x0 x1 x2 x3 x4 x5 y z : Value) :
    (set2 (setR6 W R x0 x1 x2 x3 x4 x5) (R + 1) y z).heap[R]? = some (.cells #[x0, x1, x2, x3, x4, x5] 26) ∧ (set2 (setR6 W R x0 x1 x2 x3 x4 x5) (R + 1) y z).heap[R + 1]? = some (.cells #[y, z] 54) := by
  have hne : R ≠ R + 1 := by omega
  have hne2 : R + 1 ≠ R := by omega
  refine ⟨blk_set (blk_set (store6 h x0 x1 x2 x3 x4 x5) hne) hne, ?_⟩
  exact heap_setCell_at (heap_setCell_at (blk_set (blk_set (blk_set (blk_set (blk_set (blk_set hf hne2) hne2) hne2) hne2) hne2) hne2) 0 y) 1 z
theorem end_turn {w W : World} (t : Turn Nn w W) (x0 x1 x2 x3 x4 x5 y z : Value) : Turn Nn w (set2 (setR6 W w.heap.size x0 x1 x2 x3 x4 x5) (w.heap.size + 1) y z) :=
  ((six_turn t (Nat.le_refl _) x0 x1 x2 x3 x4 x5).setCell (.inr (Nat.le_succ _)) _).setCell (.inr (Nat.le_succ _)) _
theorem end_tsl {W : World} {R : Nat} {v : Value} {ts : List TurnD} (h : TSl W v ts) (hv : ∀ j, v.ownBlock = some j → R + 1 < j) (x0 x1 x2 x3 x4 x5 y z : Value) : TSl (set2 (setR6 W R x0 x1 x2 x3 x4 x5) (R + 1) y z) v ts := by
  have h1 : ts ≠ [] → ∀ j, v.ownBlock = some j → j ≠ R := fun _ j hj => by have := hv j hj; omega
  have h2 : ts ≠ [] → ∀ j, v.ownBlock = some j → j ≠ R + 1 := fun _ j hj => by have := hv j hj; omega
  exact (((((((h.set h1).set h1).set h1).set h1).set h1).set h1).set h2).set h2

theorem word_no10 {l : Bs} {f k : Nat} (h2 : k ≤ l.length) (h : ∀ j, f ≤ j → j < k → l[j]? ≠ some 10) : ∀ c ∈ (l.drop f).take (k - f), c ≠ 10 := by
  intro c hc e
  subst e
  obtain ⟨i, hi, hx⟩ := List.mem_iff_getElem.1 hc
  simp only [List.length_take, List.length_drop] at hi
  rw [List.getElem_take, List.getElem_drop] at hx
  exact h (f + i) (by omega) (by omega) (List.getElem?_eq_some_iff.2 ⟨by omega, hx⟩)
theorem spW_len : ∀ x : Bs, (spW x).length ≤ x.length + 1
  | [] => by simp [spW]
  | c :: r => by
    have := spW_len r
    unfold spW
    split
    · simp; omega
    · split
      · simp
      · rename_i w ws h
        rw [h] at this
        simp at this ⊢; omega
theorem spW_mem : ∀ (x : Bs), ∀ w ∈ spW x, w.length ≤ x.length
  | [], w, h => by simp [spW] at h; subst h; simp
  | c :: r, w, h => by
    have ih := spW_mem r
    unfold spW at h
    split at h
    · rcases List.mem_cons.1 h with rfl | h
      · simp
      · have := ih w h; simp; omega
    · split at h
      · simp at h; subst h; simp
      · rename_i w' ws hw
        rcases List.mem_cons.1 h with rfl | h
        · have := ih w' (by rw [hw]; exact List.mem_cons_self); simp; omega
        · have := ih w (by rw [hw]; exact List.mem_cons_of_mem _ h); simp; omega
theorem spW_each (x : Bs) (i : Nat) : ((spW x)[i]?.getD []).length ≤ x.length := by
  cases h : (spW x)[i]? with
  | none => simp
  | some w => exact spW_mem x w (List.mem_of_getElem? h)
theorem machineS_err {s : ScriptD} {L : List Bs} {c : Int} (h : machineS s L = .error c) : c ≠ 0 := by
  unfold machineS at h
  simp only at h
  split at h
  · cases h; decide
  · split at h
    · split at h
      · split at h
        · cases h
        · cases h; decide
      · cases h; decide
    · cases h; decide
theorem machineS_mod {s s' : ScriptD} {L : List Bs} (h : machineS s L = .ok s') : s'.mod = s.mod := by
  unfold machineS at h
  simp only at h
  split at h
  · cases h
  · split at h
    · split at h
      · split at h
        · cases h; rfl
        · cases h
      · cases h
    · cases h

set_option maxRecDepth 100000 in
set_option maxHeartbeats 40000000 in
theorem refParse_any {t : Bs} (hl : t.length ≤ 1000000) (w : World) : Calls Tryz.prog 33 #[.string (BT t)] w (RPP w t) := by
  obtain ⟨w2, hw2⟩ : ∃ w2, (w.alloc (.cells #[.int .i64 0, .int .i64 0, .int .i64 0, .bool false, .string ⟨#[]⟩, .slice none 0 0] 26)).alloc (.cells #[.int .i64 0, .int .i64 0] 54) = w2 := ⟨_, rfl⟩
  obtain ⟨br, bf, t2⟩ := alloc2 hw2
  have hsz : w2.heap.size = w.heap.size + 2 := by rw [← hw2, World.size_alloc, World.size_alloc]
  obtain ⟨w3, hw3⟩ : ∃ w3, w2.alloc (.cells #[.int .i64 0, .int .i64 0, .int .i64 0, .bool false, .string ⟨#[]⟩, .slice none 0 0] 26) = w3 := ⟨_, rfl⟩
  obtain ⟨bx, t3⟩ := alloc1 hw3
  have D3 : Hid (DIS w2 zeroS (.slice none 0 0) w3) := Lib.hid ⟨bx, ⟨rfl, .inl ⟨rfl, rfl⟩⟩, t3⟩
  have BR := Lib.hid br
  have BF := Lib.hid bf
  have T2 := Lib.hid t2
  have HSZ := Lib.hid hsz
  obtain ⟨M, hM⟩ : ∃ M, BT t = M := ⟨_, rfl⟩
  have hMs : M.size = t.length := by rw [← hM, BT_size]
  have HM := Lib.hid hM
  have HMS := Lib.hid hMs
  have hMl : M.size ≤ 1000000 := by omega
  rw [hM]
  have hp2 : Value.pointer (some ⟨w.heap.size + 2, 0, none⟩) = Value.pointer (some ⟨w2.heap.size, 0, none⟩) := by rw [hsz]
  clear hM hMs hl bx t3 br bf t2 hsz
  go_enter Tryz.func33, Tryz.ntmps33
  go_wp2_with fail
  go_loopw [5, 6] (fun f i wr => ∃ (q a : Nat) (s : ScriptD) (pv : Option Addr) (nv cv : Nat), q ≤ M.size ∧ a ≤ q ∧ f = .int .i64 q ∧ i = .int .i64 a ∧ DIS w2 s (.slice pv nv cv) wr ∧ PG (t.drop q) a s = parseD t ∧ s.turns.length ≤ 4096 ∧ s.mod.length ≤ 65536 ∧ (a = 0 → s = zeroS ∧ q = 0)) (fun f _ _ => M.size + 1 - (intOf f).toNat)
  case atStart => exact ⟨0, 0, zeroS, none, 0, 0, by omega, by omega, rfl, rfl, D3.out, PG_start t, by decide, by decide, fun _ => ⟨rfl, rfl⟩⟩
  case round =>
    obtain ⟨q, a, s, pv, nv, cv, hq, haq, rfl, rfl, hD, hPG, hsT, hsM, hz⟩ := hrel
    have DD := Lib.hid hD
    have HPG := Lib.hid hPG
    have HZ := Lib.hid hz
    have HST := Lib.hid hsT
    have HSM := Lib.hid hsM
    clear hD hPG hz hsT hsM
    by_cases h1 : q < M.size
    · have hql : q < t.length := by rw [← HMS.out]; exact h1
      go_wp2_with fail
      go_loop [7] (fun e => ∃ z : Nat, q ≤ z ∧ z ≤ M.size ∧ e = .int .i64 z ∧ ∀ j, q ≤ j → j < z → t[j]? ≠ some 10) (fun e => M.size - (intOf e).toNat)
      case atStart => exact ⟨q, by omega, by omega, rfl, fun j h1 h2 => by omega⟩
      case round =>
        obtain ⟨z, hqz, hzM, rfl, hno⟩ := hrel
        have HNO := Lib.hid hno
        clear hno
        by_cases hz : z < M.size
        · have hzl : z < t.length := by rw [← HMS.out]; exact hz
          obtain ⟨c, hc⟩ : ∃ c, t[z] = c := ⟨_, rfl⟩
          have hiS : ∀ w, (Instr.index 9 (.string M) (.int .i64 z)).run Tryz.prog w = .ok (.int .u8 (c.toNat : Int)) w := fun w => by
            rw [← HM.out, ← hc]; exact BT_at hzl w
          have HTC := Lib.hid (List.getElem?_eq_some_iff.2 ⟨hzl, hc⟩)
          by_cases c10 : c = 10
          · subst c10
            have h10 : ((10 : UInt8).toNat : Int) = 10 := rfl
            rw [h10] at hiS
            obtain ⟨x, hx⟩ : ∃ x, (t.drop q).take (z - q) = x := ⟨_, rfl⟩
            have hcut : M.extract q z = BT x := by rw [← HM.out, ← hx]; exact cut_mid hqz (by omega)
            have hno10 : ∀ y ∈ x, y ≠ 10 := by rw [← hx]; exact word_no10 (by omega) HNO.out
            have HCL : Hid (cutL (t.drop q) = some (x, t.drop (z + 1))) := Lib.hid (by
              have h := drop_word hqz hzl
              rw [hc, hx] at h
              rw [h]; exact cutL_line x _ hno10)
            have hxl : x.length ≤ 1000000 := by rw [← hx]; simp; omega
            have HWD := Lib.hid (words_any hxl wr)
            have HWL : Hid ((spW x).length ≤ 1000000) := Lib.hid (by have := spW_len x; have : x.length < t.length := by rw [← hx]; simp; omega
                                                                     have := HMS.out; omega)
            have HWS : Hid (∀ i, i < (spW x).length → ((spW x)[i]?.getD []).length ≤ 1000000) := Lib.hid (fun i hi => by have := spW_each x i; omega)
            have hend : ((z : Int) == (M.size : Int)) = false := by rw [beq_eq_false_iff_ne]; omega
            clear hx hc hno10 h10 hxl hzl hql
            go_wp2_with fail
            refine HWD.out.mono ?_
            rintro e w5 ⟨v5, rfl, hO⟩
            obtain ⟨pw, nw, cw, rfl⟩ := hO.shape
            have OW := Lib.hid hO
            have D5 := Lib.hid (DD.out.turn hO.low)
            clear hO
            by_cases ha : a = 0
            · obtain ⟨rfl, rfl⟩ := HZ.out ha
              subst ha
              have HMC := Lib.hid (refMachine_any OW.out.str (spW_ne x) HWL.out HWS.out)
              go_wp2_with fail
              refine HMC.out.mono ?_
              rintro e w6 ⟨hp, t6⟩
              have D6 := Lib.hid (D5.out.turn t6)
              have hbx := D6.out.blk
              obtain ⟨k0, k1, k2, k3, k4, k5⟩ := cells6 hbx
              have m0 := frozen_blk (o := 0) hbx
              have m1 := frozen_blk (o := 1) hbx
              have m2 := frozen_blk (o := 2) hbx
              have m3 := frozen_blk (o := 3) hbx
              have m4 := frozen_blk (o := 4) hbx
              have m5 := frozen_blk (o := 5) hbx
              have HBX := Lib.hid hbx
              clear t6 hbx
              cases hmc : machineS zeroS (spW x) with
              | error c =>
                rw [hmc] at hp
                obtain rfl := hp
                have HC0 := Lib.hid (machineS_err hmc)
                have HR : Hid (parseD t = .error (c, 0)) := Lib.hid (by rw [← HPG.out, PG_line HCL.out, step_mach, hmc])
                have hcz : (c == 0) = false := by rw [beq_eq_false_iff_ne]; exact HC0.out
                have hcz2 : (c != 0) = true := by rw [bne_iff_ne]; exact HC0.out
                clear hmc
                simp only [sZero]
                go_upto_region 14 with (fail)
                have TZ := Lib.hid (six_turn (w := w2) (B := w2.heap.size) D6.out.t (Nat.le_refl _) (.int .i64 0) (.int .i64 0) (.int .i64 0) (.bool false) (.string ⟨#[]⟩) (.slice none 0 0))
                obtain ⟨w7, hw7⟩ : ∃ w7, ((((((w6.setCell ⟨w2.heap.size, 0, none⟩ (.int .i64 0)).setCell ⟨w2.heap.size, 1, none⟩ (.int .i64 0)).setCell ⟨w2.heap.size, 2, none⟩ (.int .i64 0)).setCell ⟨w2.heap.size, 3, none⟩ (.bool false)).setCell ⟨w2.heap.size, 4, none⟩ (.string ⟨#[]⟩)).setCell ⟨w2.heap.size, 5, none⟩ (.slice none 0 0)) = w7 := ⟨_, rfl⟩
                rw [hw7] at TZ ⊢
                clear hw7 k0 k1 k2 k3 k4 k5 m0 m1 m2 m3 m4 m5
                have BR6 := Lib.hid ((TZ.out.block _ (heap_lt BR.out) (fun h => h)).trans BR.out)
                have BF6 := Lib.hid ((TZ.out.block _ (heap_lt BF.out) (fun h => h)).trans BF.out)
                have T6 := Lib.hid (T2.out.trans TZ.out)
                obtain ⟨i0, i1, i2, i3, i4, i5⟩ := cells6 BR6.out
                have f0 := frozen_blk (o := 0) BR6.out
                have f1 := frozen_blk (o := 1) BR6.out
                have f2 := frozen_blk (o := 2) BR6.out
                have f3 := frozen_blk (o := 3) BR6.out
                have f4 := frozen_blk (o := 4) BR6.out
                have f5 := frozen_blk (o := 5) BR6.out
                obtain ⟨j0, j1⟩ := cells2m BF6.out
                have g0 := frozen_blk (o := 0) BF6.out
                have g1 := frozen_blk (o := 1) BF6.out
                go_wp2_with fail
                obtain ⟨q1, q2⟩ := end_blk BR6.out BF6.out (.int .i64 0) (.int .i64 0) (.int .i64 0) (.bool false) (.string ⟨#[]⟩) (.slice none 0 0) (.int .i64 c) (.int .i64 (0 : Nat))
                refine bodyPost_ret (v := .tuple #[.agg sZero, .agg #[.int .i64 c, .int .i64 (0 : Nat)]]) (rparse_res rfl rfl q1 q2) rfl ?_
                exact ⟨by rw [HR.out]; exact ⟨rfl, HC0.out⟩, end_turn T6.out _ _ _ _ _ _ _ _⟩
              | ok s' =>
                rw [hmc] at hp
                obtain ⟨rfl, hs0⟩ := hp
                have HPN : Hid (PG (t.drop (z + 1)) 1 s' = parseD t) := Lib.hid (by
                  rw [← HPG.out, PG_line HCL.out, step_mach, hmc]
                  exact (PG_next (by unfold phO; rw [if_neg (by decide), if_pos hs0])).symm)
                have HML : Hid (s'.mod.length ≤ 65536) := Lib.hid (by rw [machineS_mod hmc]; decide)
                have HS0 := Lib.hid hs0
                have DN := Lib.hid (DI.start (w2 := w2) D6.out.t HBX.out (.int .i64 s'.chans) (.int .i64 s'.actors) (.int .i64 s'.cap) (.bool s'.twin) (.string (BT s'.mod)))
                clear hmc hs0
                simp only [scriptA]
                go_wp2_with fail
                go_roundw
                case rel => exact ⟨z + 1, 1, s', none, 0, 0, by omega, by omega, by go_num, by go_num, by have := DN.out; rw [← HS0.out] at this; exact this, HPN.out, by rw [HS0.out]; decide, HML.out, fun h => by omega⟩
                case measure => simp [intOf]; omega
            · have HAD := Lib.hid (refAdd_any D5.out HST.out HSM.out OW.out.str (spW_ne x) HWL.out HWS.out)
              have ha0 : ((a : Int) == 0) = false := by rw [beq_eq_false_iff_ne]; omega
              go_wp2_with fail
              refine HAD.out.mono ?_
              rintro e w6 ⟨hp, t6⟩
              have TZ := Lib.hid t6
              clear t6
              cases had : addS s (spW x) with
              | error c =>
                rw [had] at hp
                obtain ⟨rfl, hc0⟩ := hp
                have HC0 := Lib.hid hc0
                have HR : Hid (parseD t = .error (c, a)) := Lib.hid (by rw [← HPG.out, PG_line HCL.out, step_add ha, had])
                have hcz : (c == 0) = false := by rw [beq_eq_false_iff_ne]; exact HC0.out
                have hcz2 : (c != 0) = true := by rw [bne_iff_ne]; exact HC0.out
                clear had hc0
                have BR6 := Lib.hid ((TZ.out.block _ (heap_lt BR.out) (fun h => h)).trans BR.out)
                have BF6 := Lib.hid ((TZ.out.block _ (heap_lt BF.out) (fun h => h)).trans BF.out)
                have T6 := Lib.hid (T2.out.trans TZ.out)
                obtain ⟨i0, i1, i2, i3, i4, i5⟩ := cells6 BR6.out
                have f0 := frozen_blk (o := 0) BR6.out
                have f1 := frozen_blk (o := 1) BR6.out
                have f2 := frozen_blk (o := 2) BR6.out
                have f3 := frozen_blk (o := 3) BR6.out
                have f4 := frozen_blk (o := 4) BR6.out
                have f5 := frozen_blk (o := 5) BR6.out
                obtain ⟨j0, j1⟩ := cells2m BF6.out
                have g0 := frozen_blk (o := 0) BF6.out
                have g1 := frozen_blk (o := 1) BF6.out
                go_wp2_with fail
                obtain ⟨q1, q2⟩ := end_blk BR6.out BF6.out (.int .i64 0) (.int .i64 0) (.int .i64 0) (.bool false) (.string ⟨#[]⟩) (.slice none 0 0) (.int .i64 c) (.int .i64 (a : Nat))
                refine bodyPost_ret (v := .tuple #[.agg sZero, .agg #[.int .i64 c, .int .i64 (a : Nat)]]) (rparse_res rfl rfl q1 q2) rfl ?_
                exact ⟨by rw [HR.out]; exact ⟨rfl, HC0.out⟩, end_turn T6.out _ _ _ _ _ _ _ _⟩
              | ok s' =>
                rw [had] at hp
                obtain ⟨rfl, pn, nn, cn, hDN⟩ := hp
                have DN := Lib.hid hDN
                have HPN : Hid (PG (t.drop (z + 1)) (a + 1) s' = parseD t) := Lib.hid (by
                  rw [← HPG.out, PG_line HCL.out, step_add ha, had]
                  exact (PG_next rfl).symm)
                obtain ⟨b1, b2⟩ := addS_ok had HST.out HSM.out
                clear had hDN
                go_wp2_with fail
                go_roundw
                case rel => exact ⟨z + 1, a + 1, s', pn, nn, cn, by omega, by omega, by go_num, by go_num, DN.out, HPN.out, b1, b2, fun h => by omega⟩
                case measure => simp [intOf]; omega
          · have h10 : ((c.toNat : Int) == 10) = false := by
              rw [beq_eq_false_iff_ne]
              intro e
              apply c10
              apply UInt8.toNat_inj.1
              have h48 : (10 : UInt8).toNat = 10 := rfl
              omega
            have h10b : ((c.toNat : Int) != 10) = true := by rw [bne_iff_ne]; intro e; rw [e] at h10; cases h10
            have HNO2 : Hid (∀ j, q ≤ j → j < z + 1 → t[j]? ≠ some 10) := Lib.hid (by
              intro j h1 h2
              by_cases hj : j = z
              · subst hj; rw [HTC.out]; intro e; exact c10 (Option.some.inj e)
              · exact HNO.out j h1 (by omega))
            clear hc hzl c10
            go_wp2_with fail
            go_round
            case rel => exact ⟨z + 1, by omega, by omega, by go_num, HNO2.out⟩
            case measure => simp [intOf]; omega
        · have hze : z = M.size := by omega
          subst hze
          have HR : Hid (parseD t = .error (5, a)) := Lib.hid (by
            rw [← HPG.out]
            refine PG_cut ?_ (.inl (fun e => by have := congrArg List.length e; simp at this; omega))
            have h := word_no10 (l := t) (f := q) (k := M.size) (by rw [HMS.out]; exact Nat.le_refl _) HNO.out
            rw [List.take_of_length_le (by rw [List.length_drop]; have := HMS.out; omega)] at h
            exact h)
          have TZ := Lib.hid DD.out.t
          clear hql
          have BR6 := Lib.hid ((TZ.out.block _ (heap_lt BR.out) (fun h => h)).trans BR.out)
          have BF6 := Lib.hid ((TZ.out.block _ (heap_lt BF.out) (fun h => h)).trans BF.out)
          have T6 := Lib.hid (T2.out.trans TZ.out)
          obtain ⟨i0, i1, i2, i3, i4, i5⟩ := cells6 BR6.out
          have f0 := frozen_blk (o := 0) BR6.out
          have f1 := frozen_blk (o := 1) BR6.out
          have f2 := frozen_blk (o := 2) BR6.out
          have f3 := frozen_blk (o := 3) BR6.out
          have f4 := frozen_blk (o := 4) BR6.out
          have f5 := frozen_blk (o := 5) BR6.out
          obtain ⟨j0, j1⟩ := cells2m BF6.out
          have g0 := frozen_blk (o := 0) BF6.out
          have g1 := frozen_blk (o := 1) BF6.out
          go_wp2_with fail
          obtain ⟨q1, q2⟩ := end_blk BR6.out BF6.out (.int .i64 0) (.int .i64 0) (.int .i64 0) (.bool false) (.string ⟨#[]⟩) (.slice none 0 0) (.int .i64 5) (.int .i64 (a : Nat))
          refine bodyPost_ret (v := .tuple #[.agg sZero, .agg #[.int .i64 5, .int .i64 (a : Nat)]]) (rparse_res rfl rfl q1 q2) rfl ?_
          exact ⟨by rw [HR.out]; exact ⟨rfl, by decide⟩, end_turn T6.out _ _ _ _ _ _ _ _⟩
    · by_cases h2 : a = 0
      · obtain ⟨rfl, rfl⟩ := HZ.out h2
        subst h2
        have hM0 : M.size = 0 := by omega
        have HR : Hid (parseD t = .error (5, 0)) := Lib.hid (by
          have : t = [] := List.eq_nil_of_length_eq_zero (by rw [← HMS.out]; exact hM0)
          rw [this]; rfl)
        have TZ := Lib.hid DD.out.t
        go_wp2_with fail
        go_loop [7] (fun e => e = .int .i64 0) (fun _ => 0)
        case atStart => rfl
        case round =>
          subst hrel
          have BR6 := Lib.hid ((TZ.out.block _ (heap_lt BR.out) (fun h => h)).trans BR.out)
          have BF6 := Lib.hid ((TZ.out.block _ (heap_lt BF.out) (fun h => h)).trans BF.out)
          have T6 := Lib.hid (T2.out.trans TZ.out)
          obtain ⟨i0, i1, i2, i3, i4, i5⟩ := cells6 BR6.out
          have f0 := frozen_blk (o := 0) BR6.out
          have f1 := frozen_blk (o := 1) BR6.out
          have f2 := frozen_blk (o := 2) BR6.out
          have f3 := frozen_blk (o := 3) BR6.out
          have f4 := frozen_blk (o := 4) BR6.out
          have f5 := frozen_blk (o := 5) BR6.out
          obtain ⟨j0, j1⟩ := cells2m BF6.out
          have g0 := frozen_blk (o := 0) BF6.out
          have g1 := frozen_blk (o := 1) BF6.out
          go_wp2_with fail
          obtain ⟨q1, q2⟩ := end_blk BR6.out BF6.out (.int .i64 0) (.int .i64 0) (.int .i64 0) (.bool false) (.string ⟨#[]⟩) (.slice none 0 0) (.int .i64 5) (.int .i64 (0 : Nat))
          refine bodyPost_ret (v := .tuple #[.agg sZero, .agg #[.int .i64 5, .int .i64 (0 : Nat)]]) (rparse_res rfl rfl q1 q2) rfl ?_
          exact ⟨by rw [HR.out]; exact ⟨rfl, by decide⟩, end_turn T6.out _ _ _ _ _ _ _ _⟩
      · have hend : t.drop q = [] := List.drop_eq_nil_of_le (by rw [← HMS.out]; omega)
        have HR : Hid (parseD t = .ok s) := Lib.hid (by rw [← HPG.out, hend]; exact PG_end s h2)
        have ha0 : ((a : Int) == 0) = false := by rw [beq_eq_false_iff_ne]; omega
        have hql : ¬ (q : Int) < (M.size : Int) := by omega
        have BR6 := Lib.hid ((DD.out.t.block _ (heap_lt BR.out) (fun h => h)).trans BR.out)
        have BF6 := Lib.hid ((DD.out.t.block _ (heap_lt BF.out) (fun h => h)).trans BF.out)
        have T6 := Lib.hid (T2.out.trans DD.out.t)
        obtain ⟨k0, k1, k2, k3, k4, k5⟩ := cells6 DD.out.blk
        have HTS : Hid (TSl wr (.slice pv nv cv) s.turns) := Lib.hid (by
          have hn : nv = s.turns.length := by
            rcases DD.out.own.2 with ⟨e, e2⟩ | ⟨_, _, _, e, _⟩
            · cases e; exact e2.symm
            · cases e; rfl
          have := TSl.own DD.out.own
          exact this)
        have HVB : Hid (∀ j, (Value.slice pv nv cv).ownBlock = some j → w.heap.size + 1 < j) := Lib.hid (fun j hj => by have := (DD.out.own.lt j hj).1; have := HSZ.out; omega)
        clear hend h1 h2 hp2
        obtain ⟨i0, i1, i2, i3, i4, i5⟩ := cells6 BR6.out
        have f0 := frozen_blk (o := 0) BR6.out
        have f1 := frozen_blk (o := 1) BR6.out
        have f2 := frozen_blk (o := 2) BR6.out
        have f3 := frozen_blk (o := 3) BR6.out
        have f4 := frozen_blk (o := 4) BR6.out
        have f5 := frozen_blk (o := 5) BR6.out
        obtain ⟨j0, j1⟩ := cells2m BF6.out
        have g0 := frozen_blk (o := 0) BF6.out
        have g1 := frozen_blk (o := 1) BF6.out
        go_wp2_with fail
        obtain ⟨q1, q2⟩ := end_blk BR6.out BF6.out (.int .i64 s.chans) (.int .i64 s.actors) (.int .i64 s.cap) (.bool s.twin) (.string (BT s.mod)) (.slice pv nv cv) (.int .i64 0) (.int .i64 0)
        refine bodyPost_ret (v := .tuple #[.agg (scriptA s (.slice pv nv cv)), .agg #[.int .i64 0, .int .i64 0]]) (rparse_res rfl rfl q1 q2) rfl ?_
        exact ⟨by rw [HR.out]; exact ⟨_, rfl, end_tsl HTS.out HVB.out _ _ _ _ _ _ _ _, HST.out⟩, end_turn T6.out _ _ _ _ _ _ _ _⟩
end Go.Proofs.YtjnllclpdllceaaGreatDoor
