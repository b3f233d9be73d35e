/- The iterator over a text's lines. -/
import Derived.Test.YtjnllclpdllceaaGreatDoorSm
import Derived.Outline
import Derived.RangeFuncNested
import Derived.RangeFuncBound
import Derived.RangeFuncCalls
import Derived.RangeFuncLeaves
import Derived.RangeFuncFrom
import Derived.Shelf.Abstract
import Derived.Shelf.RegionOpen
import Derived.OwnWalkIn
import Derived.TacticsInMore
import Derived.LoopNIn
import Derived.LoopIn
import Derived.Stop.RegionWithIn
import Derived.Sort.QuietIn
namespace Go.Proofs.YtjnllclpdllceaaGreatDoor
set_option linter.unusedSimpArgs false
set_option linter.unusedVariables false
open Go.RowKit Go.Shelf
attribute [local go_sem] Oper.semAt_some

/-- The next piece that comes, and what is left. -/
def nextL (t : Bs) : Bs × Bs := match cutL t with | some (a, b) => (a ++ [10], b) | none => (t, [])

theorem index10 : ∀ (t : Bs), Lib.indexByte t 10 = match cutL t with | some (a, _) => (a.length : Int) | none => -1
  | [] => rfl
  | x :: r => by
    have ih := index10 r
    unfold Lib.indexByte cutL
    by_cases h : x = 10
    · subst h; rfl
    · rw [if_neg (by simpa using h), if_neg h]
      cases hc : cutL r with
      | none => rw [hc] at ih; simp only at ih; rw [ih]; simp
      | some p =>
        rw [hc] at ih
        obtain ⟨a, b⟩ := p
        simp only at ih
        rw [ih, if_neg (by simp <;> omega)]
        simp

theorem nextL_short {t : Bs} (h : t ≠ []) : (nextL t).2.length < t.length := by
  unfold nextL
  cases hc : cutL t with
  | none => simp only [List.length_nil]; exact List.length_pos_iff.2 h
  | some p => exact cutL_short (a := p.1) (b := p.2) hc

theorem nextL_split (t : Bs) : (nextL t).1 ++ (nextL t).2 = t := by
  unfold nextL
  cases hc : cutL t with
  | none => simp
  | some p => rw [(cutL_some (a := p.1) (b := p.2) hc).1]; simp

theorem run_cutTo (w : World) (t : Bs) (k : Nat) (hk : k ≤ t.length) : (Instr.slice 9 (.string (BT t)) none (some (.int .i64 k)) none).run Tryz.prog w = .ok (.string (BT (t.take k))) w := by
  rw [run_slice_string_h (P := Tryz.prog) (w := w) (t := 9) (s := BT t) Tryz.underlying9 .i64 (k : Int) (by omega) (by show (k : Int) ≤ (t.length : Int); omega)]
  congr 2
  show (BT t).extract 0 _ = _
  apply ByteArray.ext
  apply Array.toList_inj.1
  rw [Lib.extract_from_zero]
  simp [BT]
theorem run_cutFrom (w : World) (t : Bs) (k : Nat) (hk : k ≤ t.length) : (Instr.slice 9 (.string (BT t)) (some (.int .i64 k)) none none).run Tryz.prog w = .ok (.string (BT (t.drop k))) w := by
  rw [run_slice_string_l (P := Tryz.prog) (w := w) (t := 9) (s := BT t) Tryz.underlying9 .i64 (k : Int) (by omega) (by show (k : Int) ≤ (t.length : Int); omega)]
  congr 2
  show (BT t).extract _ (BT t).size = _
  apply ByteArray.ext
  apply Array.toList_inj.1
  rw [Lib.extract_to_end]
  simp [BT]
theorem run_cutMid (w : World) (t : Bs) (i k : Nat) (hi : i ≤ k) (hk : k ≤ t.length) : (Instr.slice 9 (.string (BT t)) (some (.int .i64 i)) (some (.int .i64 k)) none).run Tryz.prog w = .ok (.string (BT ((t.drop i).take (k - i)))) w := by
  rw [run_slice_string (P := Tryz.prog) (w := w) (t := 9) (s := BT t) .i64 .i64 (i : Int) (k : Int) Tryz.underlying9 (by omega) (by omega) (by show (k : Int) ≤ (t.length : Int); omega)]
  congr 2
  apply ByteArray.ext
  apply Array.toList_inj.1
  rw [Lib.extract_data]
  simp [BT]

def strSize (w : World) (B : Nat) : Nat := match w.cell? ⟨B, 0, none⟩ with | some (.string s) => s.size | _ => 0

set_option maxRecDepth 100000 in
set_option maxHeartbeats 4000000 in
theorem lines1_in (n : Nat) (hn : 1 ≤ n) (l Bx : Nat) (t0 : Bs) (J : Bs → World → Prop) (Jx : World → Prop)
    (hlen : t0.length ≤ 1000000)
    (hY : ∀ t W W1, t ≠ [] → t.length ≤ t0.length → J t W → W.heap[Bx]? = some (.cells #[.string (BT t)] 9) → Turn (At1 Bx) W W1 → W1.heap[Bx]? = some (.cells #[.string (BT (nextL t).2)] 9) →
      YieldAt Fence.wide (n - 1) Tryz.prog l #[.string (BT (nextL t).1)] W1 fun e W' =>
        (e = .returned (.bool true) ∧ J (nextL t).2 W' ∧ W'.heap[Bx]? = some (.cells #[.string (BT (nextL t).2)] 9)) ∨ (e = .returned (.bool false) ∧ Jx W'))
    (W : World) (hB : W.heap[Bx]? = some (.cells #[.string (BT t0)] 9)) (h0 : J t0 W) :
    CallsIn Fence.wide n Tryz.prog 56 #[.func (.yield l) #[] #[], .pointer (some ⟨Bx, 0, none⟩)] W fun e W' => (∃ v, e = .returned v) ∧ ((∃ W2, J [] W2 ∧ W2.heap[Bx]? = some (.cells #[.string (BT [])] 9) ∧ W' = W2) ∨ Jx W') := by
  refine callsIn_of_wp Tryz.func56 rfl trivial ?_ rfl
  simp only [Tryz.ntmps56, List.size_toArray, List.length_cons, List.length_nil, Nat.reduceAdd, Nat.reduceSub, Array.replicate_succ, Array.replicate_zero, List.push_toArray, List.append_toArray, List.nil_append, List.cons_append]
  gi_wp2
  gi_loopw [3] (fun _ wr => ∃ (t : Bs), t.length ≤ t0.length ∧ wr.heap[Bx]? = some (.cells #[.string (BT t)] 9) ∧ J t wr) (fun _ wr => strSize wr Bx)
  case atStart => exact ⟨t0, Nat.le_refl _, hB, h0⟩
  case round =>
    obtain ⟨t, ht, hb, hJ⟩ := hrel
    have c0 := cell_blk (o := 0) hb
    have f0 := frozen_blk (o := 0) hb
    simp only [List.getElem?_toArray, List.getElem?_cons_zero] at c0
    cases t with
    | nil =>
      have c1 : wr.cell? ⟨Bx, 0, none⟩ = some (.string ⟨#[]⟩) := c0
      clear c0
      gi_wp2_with fail
      go_end0
      exact ⟨⟨_, rfl⟩, .inl ⟨_, hJ, hb, rfl⟩⟩
    | cons x r =>
      obtain ⟨t, htx⟩ : ∃ t, x :: r = t := ⟨_, rfl⟩
      have hne : t ≠ [] := by rw [← htx]; simp
      rw [htx] at ht hb hJ c0
      obtain ⟨D, hD⟩ : ∃ D, BT t = D := ⟨_, rfl⟩
      have hsz : D.size = t.length := by rw [← hD]; rfl
      have hpos : 1 ≤ D.size := by rw [hsz]; exact List.length_pos_iff.2 hne
      have hle : D.size ≤ 1000000 := by omega
      rw [hD] at c0
      have hix := index10 t
      cases hc : cutL t with
      | none =>
        rw [hc] at hix
        simp only at hix
        have hnx : nextL t = (t, []) := by unfold nextL; rw [hc]
        have HI := Lib.hid (Tryz.strings_IndexByte D 10 wr)
        have hx2 : Lib.indexByte D.data.toList (10 : Int).toNat.toUInt8 = -1 := by rw [← hD]; exact hix
        rw [hx2] at HI
        have hT1 : Turn (At1 Bx) wr (wr.setCell ⟨Bx, 0, none⟩ (.string ⟨#[]⟩)) := (Turn.refl (At1 Bx) wr).setCell (p := ⟨Bx, 0, none⟩) (.inl rfl) _
        have hY1 := hY t wr (wr.setCell ⟨Bx, 0, none⟩ (.string ⟨#[]⟩)) hne ht hJ hb hT1 (by rw [hnx]; exact heap_setCell_at hb 0 _)
        rw [hnx] at hY1
        simp only [hD] at hY1
        obtain ⟨fn, tmps, assign, body, hy, hR⟩ := hY1
        have hss : strSize wr Bx = D.size := by unfold strSize; rw [c0]
        have HSS := Lib.hid hss
        clear hix hx2 hnx hc hY hJ hT1 hD hsz hss hb
        gi_wp2_with fail
        refine ⟨trivial, (callsIn_wide.2 HI.out).mono ?_⟩
        rintro e w' ⟨rfl, rfl⟩
        gi_wp2_with fail
        refine hR.mono ?_
        rintro e W3 (⟨rfl, hJ3, hk3⟩ | ⟨rfl, hJx3⟩)
        · gi_wp2
          go_roundw
          case rel => exact ⟨[], by simp, hk3, hJ3⟩
          case measure => rw [HSS.out]; unfold strSize; rw [cell_blk hk3]; show 0 < D.size; omega
        · gi_wp2
          refine bodyPost_ret (results_none rfl _ _ _) rfl ?_
          exact ⟨⟨_, rfl⟩, .inr hJx3⟩
      | some p =>
        obtain ⟨a, b⟩ := p
        rw [hc] at hix
        simp only at hix
        have hnx : nextL t = (a ++ [10], b) := by unfold nextL; rw [hc]
        have hta := (cutL_some hc).1
        have HI := Lib.hid (Tryz.strings_IndexByte D 10 wr)
        have hx2 : Lib.indexByte D.data.toList (10 : Int).toNat.toUInt8 = (a.length : Int) := by rw [← hD]; exact hix
        rw [hx2] at HI
        have hal : a.length + 1 ≤ t.length := by rw [hta, List.length_append, List.length_cons]; omega
        have hs1 : ∀ w, (Instr.slice 9 (.string D) none (some (.int .i64 ((a.length : Int) + 1))) none).run Tryz.prog w = .ok (.string (BT (a ++ [10]))) w := fun w => by
          have := run_cutTo w t (a.length + 1) hal
          rw [hD] at this
          rw [show ((a.length : Int) + 1) = ((a.length + 1 : Nat) : Int) by omega, this]
          congr 3
          rw [hta, show a ++ 10 :: b = (a ++ [10]) ++ b by simp, List.take_append_of_le_length (by simp), List.take_of_length_le (by simp)]
        have hs2 : ∀ w, (Instr.slice 9 (.string D) (some (.int .i64 ((a.length : Int) + 1))) none none).run Tryz.prog w = .ok (.string (BT b)) w := fun w => by
          have := run_cutFrom w t (a.length + 1) hal
          rw [hD] at this
          rw [show ((a.length : Int) + 1) = ((a.length + 1 : Nat) : Int) by omega, this]
          congr 3
          rw [hta, show a ++ 10 :: b = (a ++ [10]) ++ b by simp, List.drop_append_of_le_length (by simp), List.drop_of_length_le (by simp)]
          rfl
        have hT1 : Turn (At1 Bx) wr (wr.setCell ⟨Bx, 0, none⟩ (.string (BT b))).drew := ((Turn.refl (At1 Bx) wr).setCell (p := ⟨Bx, 0, none⟩) (.inl rfl) _).drew
        have hY1 := hY t wr (wr.setCell ⟨Bx, 0, none⟩ (.string (BT b))).drew hne ht hJ hb hT1 (by rw [hnx]; exact heap_setCell_at hb 0 _)
        rw [hnx] at hY1
        simp only at hY1
        obtain ⟨fn, tmps, assign, body, hy, hR⟩ := hY1
        have hss : strSize wr Bx = D.size := by unfold strSize; rw [c0]
        have HSS := Lib.hid hss
        have HBL := Lib.hid (show (BT b).size < D.size by rw [hsz]; show b.length < t.length; rw [hta]; simp; omega)
        have HBT := Lib.hid (show b.length ≤ t0.length by have : b.length ≤ t.length := (by rw [hta]; simp; omega); omega)
        have hal2 : (a.length : Int) ≤ 1000000 := by omega
        obtain ⟨E1, hE1⟩ : ∃ E, BT (a ++ [10]) = E := ⟨_, rfl⟩
        obtain ⟨E2, hE2⟩ : ∃ E, BT b = E := ⟨_, rfl⟩
        rw [hE1] at hs1 hy
        rw [hE2] at hs2 hy hR HBL
        have HE2 := Lib.hid hE2
        clear hix hx2 hnx hc hY hJ hT1 hD hsz hss hb hta hal hE1 hE2
        gi_wp2_with fail
        refine ⟨trivial, (callsIn_wide.2 HI.out).mono ?_⟩
        rintro e w' ⟨rfl, rfl⟩
        gi_wp2_with fail
        gi_region
        gi_wp2_with fail
        refine hR.mono ?_
        rintro e W3 (⟨rfl, hJ3, hk3⟩ | ⟨rfl, hJx3⟩)
        · gi_wp2
          go_roundw
          case rel => exact ⟨b, HBT.out, by rw [HE2.out]; exact hk3, hJ3⟩
          case measure => rw [HSS.out]; unfold strSize; rw [cell_blk hk3]; exact HBL.out
        · gi_wp2
          refine bodyPost_ret (results_none rfl _ _ _) rfl ?_
          exact ⟨⟨_, rfl⟩, .inr hJx3⟩
end Go.Proofs.YtjnllclpdllceaaGreatDoor
