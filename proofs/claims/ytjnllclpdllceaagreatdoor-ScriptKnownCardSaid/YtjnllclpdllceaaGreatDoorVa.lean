/- Turns as a slice; is there one that may not be? -/
import Derived.Test.YtjnllclpdllceaaGreatDoorSj
namespace Go.Proofs.YtjnllclpdllceaaGreatDoor
set_option linter.unusedSimpArgs false
set_option linter.unusedVariables false
open Go.RowKit Go.Shelf

/-- A turn's three cells. -/
def TurnAt (w : World) (b o : Nat) (t : TurnD) : Prop := w.cell? ⟨b, o, none⟩ = some (.int .i64 t.kind) ∧ w.cell? ⟨b, o + 1, none⟩ = some (.int .i64 t.slot) ∧ w.cell? ⟨b, o + 2, none⟩ = some (.int .i64 t.times)
/-- The value reads as these turns. -/
def TSl (w : World) (v : Value) (ts : List TurnD) : Prop :=
  (ts = [] ∧ ∃ pa cap, v = .slice pa 0 cap) ∨ (∃ b o cap, v = .slice (some ⟨b, o, none⟩) ts.length cap ∧ ts.length ≤ cap ∧ ∀ i (h : i < ts.length), TurnAt w b (o + i * 3) ts[i])

theorem TurnAt.turn {w w' : World} {b o : Nat} {t : TurnD} (h : TurnAt w b o t) (k : Turn Nn w w') : TurnAt w' b o t := ⟨cell_turn k h.1, cell_turn k h.2.1, cell_turn k h.2.2⟩
theorem TSl.turn {w w' : World} {v : Value} {ts : List TurnD} (h : TSl w v ts) (k : Turn Nn w w') : TSl w' v ts := by
  rcases h with h | ⟨b, o, cap, h1, h2, h3⟩
  · exact .inl h
  · exact .inr ⟨b, o, cap, h1, h2, fun i hi => (h3 i hi).turn k⟩

theorem turnCells_at : ∀ (ts : List TurnD) (i : Nat) (h : i < ts.length), (turnCells ts)[i * 3]? = some (.int .i64 ts[i].kind) ∧ (turnCells ts)[i * 3 + 1]? = some (.int .i64 ts[i].slot) ∧ (turnCells ts)[i * 3 + 2]? = some (.int .i64 ts[i].times)
  | [], i, h => by simp at h
  | t :: r, 0, _ => by simp [turnCells]
  | t :: r, i + 1, h => by
    have ih := turnCells_at r i (by simpa using h)
    have e : turnCells (t :: r) = .int .i64 t.kind :: .int .i64 t.slot :: .int .i64 t.times :: turnCells r := by simp [turnCells]
    rw [e, show (i + 1) * 3 = i * 3 + 1 + 1 + 1 by omega]
    exact ih

theorem turnCells_length : ∀ (ts : List TurnD), (turnCells ts).length = ts.length * 3
  | [] => rfl
  | t :: r => by have := turnCells_length r; simp [turnCells] at this ⊢; omega

theorem TSl.own {w : World} {B : Nat} {v : Value} {ts : List TurnD} (h : w.ownsRow B 60 3 v ts.length (turnCells ts)) : TSl w v ts := by
  rcases h.2 with ⟨rfl, h0⟩ | ⟨g, cap, cur, rfl, hb, hg, hn, _, hsz, ht⟩
  · exact .inl ⟨List.eq_nil_of_length_eq_zero h0, _, _, rfl⟩
  · refine .inr ⟨g, 0, cap, rfl, hn, fun i hi => ?_⟩
    have key : ∀ j, j < ts.length * 3 → w.cell? ⟨g, j, none⟩ = (turnCells ts)[j]? := fun j hj => by
      rw [cell_blk hg, ← ht]
      simp only [List.getElem?_take, hj, if_true, Array.getElem?_toList]
    obtain ⟨h1, h2, h3⟩ := turnCells_at ts i hi
    refine ⟨?_, ?_, ?_⟩
    · rw [key _ (by omega), Nat.zero_add]; exact h1
    · rw [key _ (by omega), Nat.zero_add]; exact h2
    · rw [key _ (by omega), Nat.zero_add]; exact h3

set_option maxHeartbeats 1000000 in
theorem wrong_any (k a c : Int) (w : World) :
    Calls Tryz.prog 19 #[.agg #[.int .i64 k, .int .i64 a, .int .i64 c]] w fun e w' => e = .returned (.bool (!turnOk ⟨k, a, c⟩)) ∧ Turn Nn w w' := by
  obtain ⟨b, hb⟩ : ∃ b, turnOk ⟨k, a, c⟩ = b := ⟨_, rfl⟩
  have HT := Lib.hid (turn_any k a c (w.alloc (.cells #[.int .i64 k, .int .i64 a, .int .i64 c] 60)))
  rw [hb] at HT ⊢
  clear hb
  go_enter Tryz.func19, Tryz.ntmps19
  go_wp2_with fail
  refine HT.out.mono ?_
  rintro e w' ⟨rfl, ht⟩
  have HH := Lib.hid (((Turn.refl Nn w).alloc _).trans ht)
  clear ht
  go_wp2
  go_ret
  exact ⟨rfl, HH.out⟩

def badT (ts : List TurnD) : Bool := ts.any fun t => !turnOk t

/-- IndexFunc's answer. -/
def BadAt (w : World) (ts : List TurnD) (e : Ending) (w' : World) : Prop := ∃ z : Int, e = .returned (.int .i64 z) ∧ decide (0 ≤ z) = badT ts ∧ Turn Nn w w'

theorem badT_none {ts : List TurnD} {k : Nat} (h : badT (ts.take k) = false) (hk : k = ts.length) : badT ts = false := by
  rw [hk, List.take_of_length_le (Nat.le_refl _)] at h; exact h
theorem badT_some {ts : List TurnD} {k : Nat} (hk : k < ts.length) (h : turnOk ts[k] = false) : badT ts = true := by
  unfold badT
  rw [List.any_eq_true]
  exact ⟨ts[k], List.getElem_mem hk, by rw [h]; rfl⟩
theorem badT_step {ts : List TurnD} {k : Nat} (h0 : badT (ts.take k) = false) (hk : k < ts.length) (h : turnOk ts[k] = true) : badT (ts.take (k + 1)) = false := by
  rw [List.take_succ_eq_append_getElem hk]
  unfold badT at h0 ⊢
  rw [List.any_append, h0]
  simp [h]

set_option maxHeartbeats 2000000 in
theorem bad_any {v : Value} {ts : List TurnD} {w : World} (h : TSl w v ts) (hn : ts.length ≤ 1000000) :
    Calls Tryz.prog 47 #[v, .func (.func 19) #[] #[]] w (BadAt w ts) := by
  rcases h with ⟨rfl, pa, cap, rfl⟩ | ⟨b, o, cap, rfl, hcap, hc⟩
  · go_enter Tryz.func47, Tryz.ntmps47
    go_wp2_with fail
    go_loop [8] (fun i => i = .int .i64 0) (fun _ => 0)
    case atStart => rfl
    case round =>
      subst hrel
      go_wp2
      go_ret
      exact ⟨-1, rfl, rfl, Turn.refl _ _⟩
  · obtain ⟨M, hM⟩ : ∃ M, ts.length = M := ⟨_, rfl⟩
    have HC := Lib.hid hc
    have HM := Lib.hid hM
    rw [hM] at hn hcap
    rw [hM]
    clear hc hM
    go_enter Tryz.func47, Tryz.ntmps47
    go_wp2_with fail
    go_loopw [5, 8] (fun _ i wr => ∃ k : Nat, k ≤ M ∧ i = .int .i64 k ∧ badT (ts.take k) = false ∧ Turn Nn w wr) (fun _ i _ => M - (intOf i).toNat)
    case atStart => exact ⟨0, by omega, rfl, rfl, Turn.refl _ _⟩
    case round =>
      obtain ⟨k, hk, rfl, hb, ht⟩ := hrel
      have HB := Lib.hid hb
      have HT := Lib.hid ht
      by_cases hlt : k < M
      · have hkt : k < ts.length := by rw [HM.out]; exact hlt
        obtain ⟨h1, h2, h3⟩ := (HC.out k hkt).turn ht
        have HW := Lib.hid (wrong_any ts[k].kind ts[k].slot ts[k].times wr)
        cases hok : turnOk ts[k] with
        | false =>
          have HR := Lib.hid (badT_some hkt hok)
          have hok' : turnOk ⟨ts[k].kind, ts[k].slot, ts[k].times⟩ = false := hok
          rw [hok'] at HW
          obtain ⟨x1, hx1⟩ : ∃ x, ts[k].kind = x := ⟨_, rfl⟩
          obtain ⟨x2, hx2⟩ : ∃ x, ts[k].slot = x := ⟨_, rfl⟩
          obtain ⟨x3, hx3⟩ : ∃ x, ts[k].times = x := ⟨_, rfl⟩
          rw [hx1] at h1 HW
          rw [hx2] at h2 HW
          rw [hx3] at h3 HW
          clear hok hok' hb ht hx1 hx2 hx3 hkt
          go_wp2_with fail
          refine HW.out.mono ?_
          rintro e w1 ⟨rfl, ht1⟩
          have HT1 := Lib.hid (HT.out.trans ht1)
          clear ht1
          go_wp2
          go_ret
          exact ⟨k, rfl, by rw [HR.out]; simp, HT1.out⟩
        | true =>
          have HR := Lib.hid (badT_step hb hkt hok)
          have hok' : turnOk ⟨ts[k].kind, ts[k].slot, ts[k].times⟩ = true := hok
          rw [hok'] at HW
          obtain ⟨x1, hx1⟩ : ∃ x, ts[k].kind = x := ⟨_, rfl⟩
          obtain ⟨x2, hx2⟩ : ∃ x, ts[k].slot = x := ⟨_, rfl⟩
          obtain ⟨x3, hx3⟩ : ∃ x, ts[k].times = x := ⟨_, rfl⟩
          rw [hx1] at h1 HW
          rw [hx2] at h2 HW
          rw [hx3] at h3 HW
          clear hok hok' hb ht hx1 hx2 hx3 hkt
          go_wp2_with fail
          refine HW.out.mono ?_
          rintro e w1 ⟨rfl, ht1⟩
          have HT1 := Lib.hid (HT.out.trans ht1)
          clear ht1
          go_wp2_with fail
          go_roundw
          case rel => exact ⟨k + 1, by omega, by go_num, HR.out, HT1.out⟩
          case measure => simp [intOf]; omega
      · have hkM : k = M := by omega
        have HR := Lib.hid (badT_none hb (by rw [HM.out]; exact hkM))
        clear hb ht
        go_wp2
        go_ret
        exact ⟨-1, rfl, by rw [HR.out]; rfl, HT.out⟩

set_option maxHeartbeats 1000000 in
theorem contains_any {v : Value} {ts : List TurnD} {w : World} (h : TSl w v ts) (hn : ts.length ≤ 1000000) :
    Calls Tryz.prog 22 #[v, .func (.func 19) #[] #[]] w fun e w' => e = .returned (.bool (badT ts)) ∧ Turn Nn w w' := by
  have HB := Lib.hid (bad_any h hn)
  clear h
  go_enter Tryz.func22, Tryz.ntmps22
  go_wp2_with fail
  refine HB.out.mono ?_
  rintro e w' ⟨z, rfl, hz, ht⟩
  have HZ := Lib.hid hz
  have HT := Lib.hid ht
  clear hz ht
  go_wp2
  go_ret
  exact ⟨by rw [← HZ.out]; rfl, HT.out⟩
end Go.Proofs.YtjnllclpdllceaaGreatDoor
