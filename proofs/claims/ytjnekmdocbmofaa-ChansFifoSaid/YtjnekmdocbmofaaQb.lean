/- Contracts of the queue's functions: exploration. -/
import Derived.Test.YtjnekmdocbmofaaQa
import Derived.Deep.RegionHeld3
import Derived.Deep.RegionWith
namespace Go.Proofs.Ytjnekmdocbmofaa
set_option linter.unusedSimpArgs false
set_option linter.unusedVariables false
open Go.RowKit

set_option maxHeartbeats 400000 in
theorem put_full {w b r f n m} (h : QAt w b r f n m) (x : Int) (hn : n = m) :
    Calls Try.prog 14 #[.pointer (some ⟨b, 0, none⟩), .int .i64 x] w fun e w' => e = .returned (.int .i64 22) ∧ ∃ k, w' = w.drewN k := by
  have hne : ((n : Int) == m) = true := by rw [beq_iff_eq]; omega
  clear hn
  go_enter Try.func14, Try.ntmps14
  go_wp2_with fail
  refine (full_any h).mono ?_
  rintro e w' ⟨rfl, k, rfl⟩
  go_wp2_with fail
  go_ret
  exact ⟨rfl, _, rfl⟩

set_option maxHeartbeats 400000 in
theorem put_ok {w b r f n m} (h : QAt w b r f n m) (x : Int) (hn : n < m) :
    Calls Try.prog 14 #[.pointer (some ⟨b, 0, none⟩), .int .i64 x] w fun e w' => e = .returned (.int .i64 0) ∧ QAt w' b (r.set ((f + n) % m) x) f (n + 1) m ∧ Turn (· = b) w w' := by
  have h1 := h.n
  have h3 := h.m1
  have h4 := h.m16
  have h5 := h.fm
  have hne : ((n : Int) == m) = false := by rw [beq_eq_false_iff_ne]; omega
  obtain ⟨p, hp⟩ : ∃ p, (f + n) % m = p := ⟨_, rfl⟩
  have hp2 : p < m := by rw [← hp]; exact Nat.mod_lt _ (by omega)
  have hp1 : (p : Int) < 16 := by omega
  have HP := Lib.hid hp
  rw [hp]
  clear hp
  have h6 := h.i p (by omega)
  have h7 := h.fz p
  have h8 : ∀ k, ((w.drewN k).setCell ⟨b, p, none⟩ (.int .i64 x)).cell? ⟨b, 17, none⟩ = some (.int .i64 n) := fun k => (((h.drewN k).set p (by omega) x)).n
  have h9 : ∀ k, ((w.drewN k).setCell ⟨b, p, none⟩ (.int .i64 x)).frozen? ⟨b, 17, none⟩ = false := fun k => (((h.drewN k).set p (by omega) x)).fz 17
  go_enter Try.func14, Try.ntmps14
  go_wp2_with fail
  refine (full_any h).mono ?_
  rintro e w' ⟨rfl, k, rfl⟩
  go_wp2_with fail
  go_region_with (go_at_call 42; refine (place_any (h.drewN _) _ n p rfl (by omega) HP.out).mono ?_; rintro e w' ⟨rfl, k1, rfl⟩)
  all_goals
    go_wp2
    go_ret
    refine ⟨rfl, ?_, ?_⟩
    · exact ((h.drewN _).set p (by omega) x).setn (n + 1) (by omega)
    · exact (((Turn.refl (· = b) w).drewN _).setCell (p := ⟨b, p, none⟩) (.inl rfl) _).setCell (p := ⟨b, 17, none⟩) (.inl rfl) _

set_option maxHeartbeats 400000 in
theorem take_empty {w b r f n m} (h : QAt w b r f n m) (hn : n = 0) :
    Calls Try.prog 16 #[.pointer (some ⟨b, 0, none⟩)] w fun e w' => e = .returned (.tuple #[.int .i64 0, .int .i64 23]) ∧ ∃ k, w' = w.drewN k := by
  subst hn
  have h1 := h.n
  go_enter Try.func16, Try.ntmps16
  go_wp2
  go_ret2
  exact ⟨rfl, 0, rfl⟩

set_option maxHeartbeats 400000 in
theorem take_ok {w b r f n m} (h : QAt w b r f n m) (hn : 0 < n) :
    Calls Try.prog 16 #[.pointer (some ⟨b, 0, none⟩)] w fun e w' => e = .returned (.tuple #[.int .i64 (r[f]?.getD 0), .int .i64 0]) ∧ QAt w' b r ((f + 1) % m) (n - 1) m ∧ Turn (· = b) w w' := by
  have h1 := h.n
  have h2 := h.f
  have h3 := h.m1
  have h4 := h.m16
  have h5 := h.fm
  have h10 := h.nm
  have hne : ((n : Int) == 0) = false := by rw [beq_eq_false_iff_ne]; omega
  obtain ⟨p, hp⟩ : ∃ p, (f + 1) % m = p := ⟨_, rfl⟩
  have hp2 : p < m := by rw [← hp]; exact Nat.mod_lt _ (by omega)
  have hf1 : (f : Int) < 16 := by omega
  have HP := Lib.hid hp
  rw [hp]
  clear hp
  obtain ⟨y, hy⟩ : ∃ y, r[f]?.getD 0 = y := ⟨_, rfl⟩
  have h6 := h.i f (by omega)
  rw [hy] at h6 ⊢
  clear hy
  have h7 := h.fz 16
  have h8 : ∀ k, ((w.drewN k).setCell ⟨b, 16, none⟩ (.int .i64 p)).cell? ⟨b, 17, none⟩ = some (.int .i64 n) := fun k => (((h.drewN k).setf p hp2)).n
  have h9 : ∀ k, ((w.drewN k).setCell ⟨b, 16, none⟩ (.int .i64 p)).frozen? ⟨b, 17, none⟩ = false := fun k => (((h.drewN k).setf p hp2)).fz 17
  go_enter Try.func16, Try.ntmps16
  go_wp2
  go_quiet (fail)
  go_wp2_with fail
  refine (place_any (h.drewN _) _ 1 p rfl (by omega) HP.out).mono ?_
  rintro e w' ⟨rfl, k1, rfl⟩
  go_wp2
  go_ret2
  refine ⟨rfl, ?_, ?_⟩
  · have := ((h.drewN (nq + k1)).setf p hp2).setn (n - 1) (by omega)
    rw [show ((n - 1 : Nat) : Int) = (n : Int) - 1 by omega] at this
    exact this
  · exact (((Turn.refl (· = b) w).drewN _).setCell (p := ⟨b, 16, none⟩) (.inl rfl) _).setCell (p := ⟨b, 17, none⟩) (.inl rfl) _

set_option maxHeartbeats 400000 in
theorem new_bad (m : Int) (w : World) (h : m ≤ 0 ∨ 16 < m) :
    Calls Try.prog 11 #[.int .i64 m] w fun e w' => e = .returned (.pointer none) ∧ w = w' := by
  rcases h with h | h
  all_goals
    try have h0 : ¬ m ≤ 0 := by omega
    go_enter Try.func11, Try.ntmps11
    go_wp2
    go_ret
    exact ⟨rfl, rfl⟩

set_option maxHeartbeats 400000 in
theorem new_ok (m : Nat) (w : World) (h0 : 1 ≤ m) (h1 : m ≤ 16) :
    Calls Try.prog 11 #[.int .i64 m] w fun e w' => e = .returned (.pointer (some ⟨w.heap.size, 0, none⟩)) ∧ w' = w.alloc (.cells (qcells (List.replicate 16 0) 0 0 m) 68) := by
  have h2 : ¬ (m : Int) ≤ 0 := by omega
  have h3 : ¬ (16 : Int) < m := by omega
  go_enter Try.func11, Try.ntmps11
  go_wp2
  go_ret
  exact ⟨rfl, rfl⟩
end Go.Proofs.Ytjnekmdocbmofaa
