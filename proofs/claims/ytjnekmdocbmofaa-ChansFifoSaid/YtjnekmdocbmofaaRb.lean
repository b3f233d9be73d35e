/- The document's table: Open, CanPut, CanTake. -/
import Derived.Test.YtjnekmdocbmofaaRa
namespace Go.Proofs.Ytjnekmdocbmofaa
set_option linter.unusedSimpArgs false
set_option linter.unusedVariables false
open Go.RowKit Go.Shelf

variable {w : World} {rb sb n m : Nat} {cs : List (Option Ch)} {cur : Array Value} {vs : Nat → Bool → Value}

def zOf (s : Bool) : Nat := if s then 1 else 0

theorem RefTab.cc (h : RefTab w rb sb n m cs cur vs) {i c} (hi : cs[i]? = some (some c)) (s : Bool) : w.cell? ⟨sb, i * 5 + 1 + zOf s, none⟩ = some (.bool (!c.o s)) := by
  rw [cell_blk h.slots]
  cases s
  · exact (h.ch i c hi).1
  · exact (h.ch i c hi).2.1
theorem RefTab.cv (h : RefTab w rb sb n m cs cur vs) {i c} (hi : cs[i]? = some (some c)) (s : Bool) : w.cell? ⟨sb, i * 5 + 3 + zOf s, none⟩ = some (vs i s) := by
  rw [cell_blk h.slots]
  cases s
  · exact (h.ch i c hi).2.2.1
  · exact (h.ch i c hi).2.2.2.1

/-- The numbers of an end. -/
theorem side_nums {e : Int} {i s c} (h : sideOf cs e = some (i, s, c)) (hn : cs.length ≤ 64) :
    i < cs.length ∧ cs[i]? = some (some c) ∧ IntKind.i64.wrap (e.tdiv 2) = i ∧ IntKind.i64.wrap (e.tmod 2) = zOf s ∧ 0 ≤ e ∧ e < 2 * (cs.length : Int) ∧ e / 2 = i ∧ e % 2 = zOf s := by
  obtain ⟨h1, h2, he⟩ := sideOf_some h
  have hz : e = 2 * (i : Int) + (zOf s : Nat) := by rw [he]; cases s <;> rfl
  have hz2 : zOf s < 2 := by cases s <;> decide
  refine ⟨h1, h2, ?_, ?_, by omega, by omega, by omega, by omega⟩
  · rw [Int.tdiv_eq_ediv_of_nonneg (by omega), IntKind.wrap_i64]; omega
  · rw [Int.tmod_eq_emod_of_nonneg (by omega), IntKind.wrap_i64]; omega

set_option maxRecDepth 100000 in
set_option maxHeartbeats 1000000 in
theorem refOpen_any (h : RefTab w rb sb n m cs cur vs) (e : Int) :
    Calls Try.prog 51 #[.pointer (some ⟨rb, 0, none⟩), .int .i64 e] w fun r w' => r = .returned (.bool (openA cs e)) ∧ w = w' := by
  have ht := there_any h e
  have h0 := h.c0
  have hn := h.n64
  have hlen := h.len
  cases hs : sideOf cs e with
  | none =>
    have HO := Lib.hid (open_none hs)
    rw [hs] at ht
    have HT := Lib.hid ht
    clear ht hs h hlen
    rw [HO.out]
    go_enter Try.func51, Try.ntmps51
    go_wp2_with fail
    refine HT.out.mono ?_
    rintro r w' ⟨rfl, rfl⟩
    go_wp2_with fail
    go_ret
    exact ⟨rfl, rfl⟩
  | some x =>
    obtain ⟨i, s, c⟩ := x
    obtain ⟨h1, h2, h3, h4, h5, h6, h7, h8⟩ := side_nums hs (by omega)
    have hc := h.cc h2 s
    have HO := Lib.hid (open_some hs)
    rw [hs] at ht
    have HT := Lib.hid ht
    have h9 : (i : Int) < (n : Int) := by omega
    have H7 := Lib.hid h7
    clear ht hs h h1 h2 h6 hlen h7 h4
    rw [HO.out]
    obtain ⟨b, hb⟩ : ∃ b, c.o s = b := ⟨_, rfl⟩
    rw [hb] at hc ⊢
    clear hb HO
    cases s
    all_goals
      simp only [zOf, if_true, if_false, Bool.false_eq_true, Nat.add_zero, Int.natCast_zero, Int.natCast_one] at hc h8
      try (have h8 : e % 2 = 0 := h8)
      try (have h8 : e % 2 = 1 := h8)
      go_enter Try.func51, Try.ntmps51
      go_wp2_with fail
      refine HT.out.mono ?_
      rintro r w' ⟨rfl, rfl⟩
      go_wp2_with fail
      go_ret
      exact ⟨by simp, rfl⟩
end Go.Proofs.Ytjnekmdocbmofaa
