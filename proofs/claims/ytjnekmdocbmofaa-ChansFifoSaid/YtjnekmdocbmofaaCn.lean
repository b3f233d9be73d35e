/- A table that is none; the closed law of channels, walked. -/
import Derived.Test.YtjnekmdocbmofaaCm
namespace Go.Proofs.Ytjnekmdocbmofaa
set_option linter.unusedSimpArgs false
set_option linter.unusedVariables false
open Go.RowKit Go.Shelf

set_option maxRecDepth 100000 in
set_option maxHeartbeats 1000000 in
theorem ask_nil (e : Int) (rs : Value) (w : World) : Calls Try.prog 46 #[.pointer none, .int .i64 e, rs] w fun r w' => r = .returned (.int .i64 1) ∧ Turn Nn w w' := by
  go_enter Try.func46, Try.ntmps46
  go_wp2_with fail
  go_ret
  exact ⟨rfl, Turn.refl _ _⟩
set_option maxHeartbeats 1000000 in
theorem find_nil (e : Int) (w : World) : Calls Try.prog 58 #[.pointer none, .int .i64 e] w fun r w' => r = .returned (.tuple #[.agg #[.pointer none, .int .i64 0], .bool false]) ∧ Turn Nn w w' := by
  go_enter Try.func58, Try.ntmps58
  go_wp2_with fail
  refine bodyPost_ret (v := .tuple #[.agg #[.pointer none, .int .i64 0], .bool false]) ?_ rfl ⟨rfl, (Turn.refl _ _).alloc _⟩
  simp only [results, show Try.f58.results = #[.cell 4 85, .tmp 5] from rfl]
  go_simp
set_option maxHeartbeats 1000000 in
theorem make_nil (w : World) : Calls Try.prog 25 #[.pointer none] w fun r w' => r = .returned (.tuple #[.int .i64 (-1), .int .i64 1]) ∧ Turn Nn w w' := by
  go_enter Try.func25, Try.ntmps25
  go_wp2_with fail
  go_ret2
  exact ⟨rfl, Turn.refl _ _⟩
set_option maxHeartbeats 1000000 in
theorem put_nil21 (e x : Int) (w : World) : Calls Try.prog 29 #[.pointer none, .int .i64 e, .int .i64 x] w fun r w' => r = .returned (.int .i64 1) ∧ Turn Nn w w' := by
  go_enter Try.func29, Try.ntmps29
  go_wp2_with fail
  refine (ask_nil e _ _).mono ?_
  rintro r w1 ⟨rfl, t⟩
  go_wp2_with fail
  go_ret
  exact ⟨rfl, (((Turn.refl Nn w).alloc _).alloc _).trans t⟩
set_option maxHeartbeats 1000000 in
theorem close_nil (e : Int) (w : World) : Calls Try.prog 26 #[.pointer none, .int .i64 e] w fun r w' => r = .returned (.int .i64 1) ∧ Turn Nn w w' := by
  go_enter Try.func26, Try.ntmps26
  go_wp2_with fail
  refine (ask_nil e _ _).mono ?_
  rintro r w1 ⟨rfl, t⟩
  go_wp2_with fail
  go_ret
  exact ⟨rfl, ((((Turn.refl Nn w).alloc _).alloc _).alloc _).trans t⟩
set_option maxHeartbeats 1000000 in
theorem take_nil21 (e : Int) (w : World) : Calls Try.prog 31 #[.pointer none, .int .i64 e] w fun r w' => r = .returned (.tuple #[.int .i64 0, .int .i64 1]) ∧ Turn Nn w w' := by
  go_enter Try.func31, Try.ntmps31
  go_wp2_with fail
  refine (ask_nil e _ _).mono ?_
  rintro r w1 ⟨rfl, t1⟩
  have hc0 : w1.heap[w.heap.size]? = some (.cells #[.int .i64 0] 2) :=
    ((((Turn.refl Nn _).alloc _).trans t1).block _ (by simp) (fun h => h)).trans (World.alloc_heap_new w (.cells #[.int .i64 0] 2))
  have hc1 : w1.cell? ⟨w.heap.size, 0, none⟩ = some (.int .i64 0) := by rw [cell_blk hc0]; rfl
  have hc2 : w1.frozen? ⟨w.heap.size, 0, none⟩ = false := frozen_blk hc0 _
  go_wp2_with fail
  refine bodyPost_ret (v := .tuple #[.int .i64 0, .int .i64 1]) ?_ rfl ⟨rfl, ?_⟩
  · simp only [results, show Try.f31.results = #[.cell 4 2, .tmp 5] from rfl]
    go_simp
  · exact ((((Turn.refl Nn w).alloc _).alloc _).trans t1).setCell (p := ⟨w.heap.size, 0, none⟩) (.inr (Nat.le_refl _)) _
set_option maxHeartbeats 1000000 in
theorem open_nil (e : Int) (w : World) : Calls Try.prog 37 #[.pointer none, .int .i64 e] w fun r w' => r = .returned (.bool false) ∧ Turn Nn w w' := by
  go_enter Try.func37, Try.ntmps37
  go_wp2_with fail
  refine (ask_nil e _ _).mono ?_
  rintro r w1 ⟨rfl, t⟩
  go_wp2_with fail
  go_ret
  exact ⟨rfl, t⟩
set_option maxHeartbeats 1000000 in
theorem canPut_nil (e : Int) (w : World) : Calls Try.prog 38 #[.pointer none, .int .i64 e] w fun r w' => r = .returned (.bool false) ∧ Turn Nn w w' := by
  go_enter Try.func38, Try.ntmps38
  go_wp2_with fail
  refine (ask_nil e _ _).mono ?_
  rintro r w1 ⟨rfl, t⟩
  go_wp2_with fail
  go_ret
  exact ⟨rfl, ((Turn.refl Nn w).alloc _).trans t⟩
set_option maxHeartbeats 1000000 in
theorem canTake_nil (e : Int) (w : World) : Calls Try.prog 39 #[.pointer none, .int .i64 e] w fun r w' => r = .returned (.bool false) ∧ Turn Nn w w' := by
  go_enter Try.func39, Try.ntmps39
  go_wp2_with fail
  refine (ask_nil e _ _).mono ?_
  rintro r w1 ⟨rfl, t⟩
  go_wp2_with fail
  go_ret
  exact ⟨rfl, ((Turn.refl Nn w).alloc _).trans t⟩
set_option maxHeartbeats 1000000 in
theorem waiting_nil (e : Int) (w : World) : Calls Try.prog 40 #[.pointer none, .int .i64 e] w fun r w' => r = .returned (.slice none 0 0) ∧ Turn Nn w w' := by
  go_enter Try.func40, Try.ntmps40
  go_wp2_with fail
  refine (find_nil e _).mono ?_
  rintro r w1 ⟨rfl, t⟩
  go_wp2_with fail
  go_ret
  exact ⟨rfl, t.alloc _⟩
set_option maxHeartbeats 1000000 in
theorem live_nil (w : World) : Calls Try.prog 34 #[.pointer none] w fun r w' => r = .returned (.int .i64 0) ∧ w = w' := by
  go_enter Try.func34, Try.ntmps34
  go_wp2_with fail
  go_ret
  exact ⟨rfl, rfl⟩

theorem sideOf_free (n : Nat) (e : Int) : sideOf (List.replicate n none) e = none := by
  cases h : sideOf (List.replicate n none) e with
  | none => rfl
  | some x =>
    obtain ⟨i, s, c⟩ := x
    have := (sideOf_some h).2.1
    rw [List.getElem?_replicate] at this
    split at this <;> simp at this

theorem live_free (n : Nat) : liveA (List.replicate n none) = 0 := by
  unfold liveA
  simp

set_option maxRecDepth 100000 in
set_option maxHeartbeats 4000000 in
theorem known21 (w : World) : Calls Try.prog 10 #[] w fun e w' => e = .returned (.bool true) ∧ Below w.heap.size w w' := by
  go_enter Try.func10, Try.ntmps10
  go_wp2_with fail
  refine (make_nil w).mono ?_
  rintro e w1 ⟨rfl, t1⟩
  go_wp2_with fail
  refine (take_nil21 0 w1).mono ?_
  rintro e w2 ⟨rfl, t2⟩
  have t2 := t1.trans t2
  clear t1
  go_wp2_with fail
  refine (chNew_ok 64 16 w2 (by omega) (by omega) (by omega) (by omega)).mono ?_
  rintro e w3 ⟨rfl, h3, t3⟩
  have t3 := t2.trans t3
  have hsz := t2.size
  clear t2
  obtain ⟨tb, htb⟩ : ∃ tb, w2.heap.size + 1 = tb := ⟨_, rfl⟩
  obtain ⟨sb, hsb⟩ : ∃ sb, w2.heap.size = sb := ⟨_, rfl⟩
  have H3 := Lib.hid h3
  rw [htb, hsb] at H3
  rw [hsb] at hsz
  rw [htb]
  clear h3 htb hsb
  go_wp2_with fail
  refine (chNew_bad 0 1 w3 (by omega)).mono ?_
  rintro e w' ⟨rfl, rfl⟩
  go_wp2_with fail
  refine (chNew_bad 65 1 w3 (by omega)).mono ?_
  rintro e w' ⟨rfl, rfl⟩
  go_wp2_with fail
  refine (chNew_bad 1 0 w3 (by omega)).mono ?_
  rintro e w' ⟨rfl, rfl⟩
  go_wp2_with fail
  refine (chNew_bad 1 17 w3 (by omega)).mono ?_
  rintro e w' ⟨rfl, rfl⟩
  go_wp2_with fail
  refine (put_stale H3.out 0 1 (open_none (sideOf_free _ _))).mono ?_
  rintro e w4 ⟨rfl, t4⟩
  have H4 := Lib.hid (H3.out.turn' t4)
  have t4 := t3.trans t4
  clear H3 t3
  go_wp2_with fail
  refine (close_stale H4.out (-1) (open_none (sideOf_free _ _))).mono ?_
  rintro e w5 ⟨rfl, t5⟩
  have H5 := Lib.hid (H4.out.turn' t5)
  have t5 := t4.trans t5
  clear H4 t4
  go_wp2_with fail
  refine (close_stale H5.out 128 (open_none (sideOf_free _ _))).mono ?_
  rintro e w6 ⟨rfl, t6⟩
  have H6 := Lib.hid (H5.out.turn' t6)
  have t6 := t5.trans t6
  clear H5 t5
  go_wp2_with fail
  refine (take_stale H6.out 127 (open_none (sideOf_free _ _))).mono ?_
  rintro e w7 ⟨rfl, t7⟩
  have H7 := Lib.hid (H6.out.turn' t7)
  have t7 := t6.trans t7
  clear H6 t6
  go_wp2_with fail
  refine (works21 w7).mono ?_
  rintro e w8 ⟨rfl, b8⟩
  have t8 : Turn Nn w7 w8 := ⟨b8.os, b8.tape, b8.output, b8.size, fun k hk _ => b8.block k hk⟩
  have H8 := Lib.hid (H7.out.turn' t8)
  have t8 := t7.trans t8
  clear H7 t7 b8
  go_wp2_with fail
  refine (put_nil21 0 1 w8).mono ?_
  rintro e w9 ⟨rfl, t9⟩
  have H9 := Lib.hid (H8.out.turn' t9)
  have t9 := t8.trans t9
  clear H8 t8
  go_wp2_with fail
  refine (close_nil 0 w9).mono ?_
  rintro e w10 ⟨rfl, t10⟩
  have H10 := Lib.hid (H9.out.turn' t10)
  have t10 := t9.trans t10
  clear H9 t9
  go_wp2_with fail
  refine (canPut_nil 0 w10).mono ?_
  rintro e w11 ⟨rfl, t11⟩
  have H11 := Lib.hid (H10.out.turn' t11)
  have t11 := t10.trans t11
  clear H10 t10
  go_wp2_with fail
  refine (canTake_nil 0 w11).mono ?_
  rintro e w12 ⟨rfl, t12⟩
  have H12 := Lib.hid (H11.out.turn' t12)
  have t12 := t11.trans t12
  clear H11 t11
  go_wp2_with fail
  refine (open_nil 0 w12).mono ?_
  rintro e w13 ⟨rfl, t13⟩
  have H13 := Lib.hid (H12.out.turn' t13)
  have t13 := t12.trans t13
  clear H12 t12
  go_wp2_with fail
  refine (waiting_nil 0 w13).mono ?_
  rintro e w14 ⟨rfl, t14⟩
  have H14 := Lib.hid (H13.out.turn' t14)
  have t14 := t13.trans t14
  clear H13 t13
  go_wp2_with fail
  refine (live_nil w14).mono ?_
  rintro e w' ⟨rfl, rfl⟩
  go_wp2_with fail
  refine (live_any H14.out).mono ?_
  rintro e w' ⟨rfl, rfl⟩
  rw [live_free 64]
  go_wp2_with fail
  go_ret
  exact ⟨rfl, below_turn_n (Below.refl _ _) t14 (Nat.le_refl _)⟩
end Go.Proofs.Ytjnekmdocbmofaa
