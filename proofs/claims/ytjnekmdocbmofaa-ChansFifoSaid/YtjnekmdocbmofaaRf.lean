/- The document's table: New, Waiting, Make. -/
import Derived.Test.YtjnekmdocbmofaaRe
namespace Go.Proofs.Ytjnekmdocbmofaa
set_option linter.unusedSimpArgs false
set_option linter.unusedVariables false
open Go.RowKit Go.Shelf

variable {w w' : World} {rb sb n m : Nat} {cs : List (Option Ch)} {cur cur' : Array Value} {vs : Nat → Bool → Value}

theorem under87 : Try.prog.underlying 87 = some (.slice 92) := by kernel_rfl
def zero92 : Array Value := #[.bool false, .bool false, .bool false, .slice none 0 0, .slice none 0 0]
theorem info92 : (Try.prog.info? 92).map (fun i => (i.zero, i.size, i.bytes)) = some (some (.agg zero92), 5, 56) := by kernel_rfl
theorem run_make87 (n : Nat) (hn : n ≤ 64) (w : World) : (Instr.makeSlice 87 (.int .i64 (n : Int)) (.int .i64 (n : Int))).run Try.prog w = .ok (.slice (some ⟨w.heap.size, 0, none⟩) n n) (w.alloc (.cells (madeCells zero92 (n * 5)) 92)) := by
  obtain ⟨i, hi, hzz⟩ := Option.map_eq_some_iff.1 info92
  simp only [Prod.mk.injEq] at hzz
  obtain ⟨hz, hs, hb⟩ := hzz
  have hr := run_make (P := Try.prog) w 87 92 i _ under87 hi hz .i64 .i64 n n (by omega) (Int.le_refl _) (by rw [hb]; omega) (by omega)
  simp only [Int.toNat_natCast, hs] at hr
  exact hr

theorem RefTab.new (hn : n ≤ 64) (h1 : 1 ≤ m) (h2 : m ≤ 16) {w : World} :
    RefTab ((w.alloc (.cells (madeCells zero92 (n * 5)) 92)).alloc (.cells #[.slice (some ⟨w.heap.size, 0, none⟩) n n, .int .i64 m] 89)) (w.heap.size + 1) w.heap.size n m (List.replicate n none) (madeCells zero92 (n * 5)) (fun _ _ => .slice none 0 0) := by
  refine ⟨World.alloc_heap_new (w.alloc _) _ |> (by simpa using ·), (Below.heap_alloc _ _ _ (by simp)).trans (World.alloc_heap_new w _), size_madeCells _ _, by simp, hn, h1, h2, by omega, fun i o hi => ?_, fun i c hi => ?_, fun i s j r c d g hi => ?_⟩
  · rw [List.getElem?_replicate] at hi
    split at hi
    · simp only [Option.some.injEq] at hi
      subst hi
      have : i * 5 < n * 5 := by omega
      simp [madeCells, this, zero92]
    · cases hi
  · rw [List.getElem?_replicate] at hi; split at hi <;> simp at hi
  · rw [List.getElem?_replicate] at hi; split at hi <;> simp at hi

set_option maxHeartbeats 1000000 in
theorem refNew21_bad (s m : Int) (w : World) (h : s ≤ 0 ∨ 64 < s ∨ m ≤ 0 ∨ 16 < m) :
    Calls Try.prog 27 #[.int .i64 s, .int .i64 m] w fun e w' => e = .returned (.pointer none) ∧ w = w' := by
  by_cases h1 : s ≤ 0
  · have h0 : s < 1 := by omega
    go_enter Try.func27, Try.ntmps27
    go_wp2_with fail
    go_ret
    exact ⟨rfl, rfl⟩
  by_cases h2 : 64 < s
  · have h0 : ¬ s < 1 := by omega
    go_enter Try.func27, Try.ntmps27
    go_wp2_with fail
    go_ret
    exact ⟨rfl, rfl⟩
  by_cases h3 : m ≤ 0
  · have h0 : ¬ s < 1 := by omega
    have h4 : m < 1 := by omega
    go_enter Try.func27, Try.ntmps27
    go_wp2_with fail
    go_ret
    exact ⟨rfl, rfl⟩
  · have h0 : ¬ s < 1 := by omega
    have h4 : ¬ m < 1 := by omega
    have h5 : 16 < m := by omega
    go_enter Try.func27, Try.ntmps27
    go_wp2_with fail
    go_ret
    exact ⟨rfl, rfl⟩

set_option maxHeartbeats 1000000 in
theorem refNew21_ok (n m : Nat) (w : World) (h1 : 1 ≤ n) (h2 : n ≤ 64) (h3 : 1 ≤ m) (h4 : m ≤ 16) :
    Calls Try.prog 27 #[.int .i64 n, .int .i64 m] w fun e w' => e = .returned (.pointer (some ⟨w.heap.size + 1, 0, none⟩)) ∧ RefTab w' (w.heap.size + 1) w.heap.size n m (List.replicate n none) (madeCells zero92 (n * 5)) (fun _ _ => .slice none 0 0) ∧ Turn Nn w w' := by
  have hmk := run_make87 n h2
  have g1 : ¬ (n : Int) < 1 := by omega
  have g2 : ¬ (64 : Int) < n := by omega
  have g3 : ¬ (m : Int) < 1 := by omega
  have g4 : ¬ (16 : Int) < m := by omega
  go_enter Try.func27, Try.ntmps27
  go_wp2_with fail
  go_ret
  exact ⟨by simp, RefTab.new h2 h3 h4, ((Turn.refl _ _).alloc _).alloc _⟩

set_option maxRecDepth 100000 in
set_option maxHeartbeats 1000000 in
theorem refWaiting_any (h : RefTab w rb sb n m cs cur vs) (e : Int) :
    Calls Try.prog 57 #[.pointer (some ⟨rb, 0, none⟩), .int .i64 e] w fun r w' => (∃ v, r = .returned v ∧ SlI w' v (waitA cs e)) ∧ Turn Nn w w' := by
  have ht := there_any h e
  have h0 := h.c0
  have hn := h.n64
  cases hs : sideOf cs e with
  | none =>
    have HW : Hid (waitA cs e = []) := Lib.hid (by unfold waitA; rw [hs])
    rw [hs] at ht
    have HT := Lib.hid ht
    clear ht hs h
    rw [HW.out]
    go_enter Try.func57, Try.ntmps57
    go_wp2_with fail
    refine HT.out.mono ?_
    rintro r w' ⟨rfl, rfl⟩
    go_wp2_with fail
    go_ret
    exact ⟨⟨_, rfl, .inl ⟨rfl, _, _, rfl⟩⟩, Turn.refl _ _⟩
  | some x =>
    obtain ⟨i, s, c⟩ := x
    obtain ⟨g1, g2, g3, g4, g5, g6, g7, g8⟩ := side_nums hs (by have := h.len; omega)
    have hc := h.cv g2 s
    have HW : Hid (waitA cs e = c.l s) := Lib.hid (by unfold waitA; rw [hs])
    rw [hs] at ht
    have HT := Lib.hid ht
    have g9 : (i : Int) < (n : Int) := by have := h.len; omega
    obtain ⟨hsl, hle⟩ := (h.ch i c g2).2.2.2.2 s
    have hm16 := h.m16
    obtain ⟨v', W', hrun, hown, hgrow, _⟩ := append_words (W := w) (B := w.heap.size) (v := .slice none 0 0) (X := []) (World.ownsRow_nil w _ 2 1) hsl.sl (by simp; omega) (Nat.le_refl _) 35
    have hsl2 := SlI.own hown
    rw [List.nil_append] at hsl2
    have hT : Turn Nn w W' := Turn.grown hgrow (fun k hk => by simp [Value.ownBlock] at hk)
    obtain ⟨pa, cap, hv⟩ := hsl.shape
    rw [hv] at hc hrun
    obtain ⟨N, hN⟩ : ∃ N, (c.l s).length = N := ⟨_, rfl⟩
    rw [hN] at hc hrun
    have HR := Lib.hid hrun
    have HSL := Lib.hid hsl2
    rw [HW.out]
    clear ht hs h g1 g2 g6 hv hN hsl hrun hown hgrow hsl2 HW g4
    cases s
    all_goals
      simp only [zOf, if_true, if_false, Bool.false_eq_true, Nat.add_zero, Int.natCast_zero, Int.natCast_one] at hc g8
      try (have g8 : e % 2 = 0 := g8)
      try (have g8 : e % 2 = 1 := g8)
      go_enter Try.func57, Try.ntmps57
      go_wp2_with fail
      refine HT.out.mono ?_
      rintro r w' ⟨rfl, rfl⟩
      go_wp2_with (at_builtin; refine wpList_append_eq rfl _ _ 35 rfl _ _ rfl rfl HR.out ?_)
      go_ret
      exact ⟨⟨_, rfl, HSL.out⟩, hT⟩
end Go.Proofs.Ytjnekmdocbmofaa
