/- find: the side of an end. -/
import Derived.Test.YtjnekmdocbmofaaCd
namespace Go.Proofs.Ytjnekmdocbmofaa
set_option linter.unusedSimpArgs false
set_option linter.unusedVariables false
open Go.RowKit Go.Shelf

set_option maxRecDepth 100000 in
set_option maxHeartbeats 1000000 in
theorem find_neg {w : World} {tb sb n m cs} (h : TabIs w tb sb n m cs) (e : Int) (he : e < 0) :
    Calls Try.prog 58 #[.pointer (some ⟨tb, 0, none⟩), .int .i64 e] w fun r w' => r = .returned (.tuple #[.agg #[.pointer none, .int .i64 0], .bool false]) ∧ Turn Nn w w' := by
  have h0 := h.cell0
  clear h
  go_enter Try.func58, Try.ntmps58
  go_wp2_with fail
  refine bodyPost_ret (v := .tuple #[.agg #[.pointer none, .int .i64 0], .bool false]) ?_ rfl ⟨rfl, (Turn.refl _ _).alloc _⟩
  simp only [results, show Try.f58.results = #[.cell 4 85, .tmp 5] from rfl]
  go_simp

set_option maxRecDepth 100000 in
set_option maxHeartbeats 1000000 in
theorem find_far {w : World} {tb sb n m cs} (h : TabIs w tb sb n m cs) (e : Int) (he : 2 * (n : Int) ≤ e) :
    Calls Try.prog 58 #[.pointer (some ⟨tb, 0, none⟩), .int .i64 e] w fun r w' => r = .returned (.tuple #[.agg #[.pointer none, .int .i64 0], .bool false]) ∧ Turn Nn w w' := by
  have h0 : ∀ o, (w.alloc o).cell? ⟨tb, 0, none⟩ = some (.slice (some ⟨sb, 0, none⟩) n n) := fun o => by rw [cell_blk ((((Turn.refl Nn w).alloc o).block tb (heap_lt h.tab) (fun h => h)).trans h.tab)]; rfl
  have hn := h.n64
  have he0 : ¬ e < 0 := by omega
  have hwr : IntKind.i64.wrap (2 * (n : Int)) = 2 * n := by rw [IntKind.wrap_i64]; omega
  clear h
  go_enter Try.func58, Try.ntmps58
  go_wp2_with fail
  refine bodyPost_ret (v := .tuple #[.agg #[.pointer none, .int .i64 0], .bool false]) ?_ rfl ⟨rfl, (Turn.refl _ _).alloc _⟩
  simp only [results, show Try.f58.results = #[.cell 4 85, .tmp 5] from rfl]
  go_simp

set_option maxRecDepth 100000 in
set_option maxHeartbeats 1000000 in
theorem find_free {w : World} {tb sb n m cs} (h : TabIs w tb sb n m cs) (i : Nat) (z : Int) (hz : z = 0 ∨ z = 1) (hin : i < n) (hc : cs[i]? = some none) :
    Calls Try.prog 58 #[.pointer (some ⟨tb, 0, none⟩), .int .i64 (2 * (i : Int) + z)] w fun r w' => r = .returned (.tuple #[.agg #[.pointer none, .int .i64 0], .bool false]) ∧ Turn Nn w w' := by
  have h0 : ∀ o, (w.alloc o).cell? ⟨tb, 0, none⟩ = some (.slice (some ⟨sb, 0, none⟩) n n) := fun o => by rw [cell_blk ((((Turn.refl Nn w).alloc o).block tb (heap_lt h.tab) (fun h => h)).trans h.tab)]; rfl
  have h1 : ∀ o, (w.alloc o).cell? ⟨sb, i, none⟩ = some (.pointer none) := fun o => by rw [cell_blk ((((Turn.refl Nn w).alloc o).block sb (heap_lt h.slots) (fun h => h)).trans h.slots)]; simp [chVals, hc, chPtr]
  have hn := h.n64
  obtain ⟨e, he⟩ : ∃ e : Int, 2 * (i : Int) + z = e := ⟨_, rfl⟩
  have he0 : ¬ e < 0 := by omega
  have he1 : ¬ 2 * (n : Int) ≤ e := by omega
  have hwr : IntKind.i64.wrap (2 * (n : Int)) = 2 * n := by rw [IntKind.wrap_i64]; omega
  have hdv : IntKind.i64.wrap (e.tdiv 2) = i := by rw [Int.tdiv_eq_ediv_of_nonneg (by omega), IntKind.wrap_i64]; omega
  have hi2 : (i : Int) < (n : Int) := by omega
  rw [he]
  clear h hc he
  go_enter Try.func58, Try.ntmps58
  go_wp2_with fail
  refine bodyPost_ret (v := .tuple #[.agg #[.pointer none, .int .i64 0], .bool false]) ?_ rfl ⟨rfl, (Turn.refl _ _).alloc _⟩
  simp only [results, show Try.f58.results = #[.cell 4 85, .tmp 5] from rfl]
  go_simp

set_option maxRecDepth 100000 in
set_option maxHeartbeats 1000000 in
theorem find_ok {w : World} {tb sb n m cs} {c : Ch} (h : TabIs w tb sb n m cs) (i : Nat) (z : Int) (hz : z = 0 ∨ z = 1) (hin : i < n) (hc : cs[i]? = some (some c)) :
    Calls Try.prog 58 #[.pointer (some ⟨tb, 0, none⟩), .int .i64 (2 * (i : Int) + z)] w fun r w' => r = .returned (.tuple #[.agg #[.pointer (some ⟨c.base + 2, 0, none⟩), .int .i64 z], .bool true]) ∧ Turn Nn w w' := by
  have h0 : ∀ o, (w.alloc o).cell? ⟨tb, 0, none⟩ = some (.slice (some ⟨sb, 0, none⟩) n n) := fun o => by rw [cell_blk ((((Turn.refl Nn w).alloc o).block tb (heap_lt h.tab) (fun h => h)).trans h.tab)]; rfl
  have h1 : ∀ o, (w.alloc o).cell? ⟨sb, i, none⟩ = some (.pointer (some ⟨c.base + 2, 0, none⟩)) := fun o => by rw [cell_blk ((((Turn.refl Nn w).alloc o).block sb (heap_lt h.slots) (fun h => h)).trans h.slots)]; simp [chVals, hc, chPtr]
  have hn := h.n64
  obtain ⟨p, hp⟩ : ∃ p, c.base + 2 = p := ⟨_, rfl⟩
  rw [hp] at h1 ⊢
  obtain ⟨e, he⟩ : ∃ e : Int, 2 * (i : Int) + z = e := ⟨_, rfl⟩
  have he0 : ¬ e < 0 := by omega
  have he1 : ¬ 2 * (n : Int) ≤ e := by omega
  have hwr : IntKind.i64.wrap (2 * (n : Int)) = 2 * n := by rw [IntKind.wrap_i64]; omega
  have hdv : IntKind.i64.wrap (e.tdiv 2) = i := by rw [Int.tdiv_eq_ediv_of_nonneg (by omega), IntKind.wrap_i64]; omega
  have hrm : IntKind.i64.wrap (e.tmod 2) = z := by rw [Int.tmod_eq_emod_of_nonneg (by omega), IntKind.wrap_i64]; omega
  have hi2 : (i : Int) < (n : Int) := by omega
  have HE := Lib.hid (show e % 2 = z by omega)
  rw [he]
  clear h hc he hp
  go_enter Try.func58, Try.ntmps58
  go_wp2_with fail
  rw [HE.out]
  refine bodyPost_ret (v := .tuple #[.agg #[.pointer (some ⟨p, 0, none⟩), .int .i64 z], .bool true]) ?_ rfl ⟨rfl, (Turn.refl _ _).alloc _⟩
  simp only [results, show Try.f58.results = #[.cell 4 85, .tmp 5] from rfl]
  go_simp
end Go.Proofs.Ytjnekmdocbmofaa
