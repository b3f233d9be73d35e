/- The side of an end, over a table of channels. -/
import Derived.Test.YtjnekmdocbmofaaCe
namespace Go.Proofs.Ytjnekmdocbmofaa
set_option linter.unusedSimpArgs false
set_option linter.unusedVariables false
open Go.RowKit Go.Shelf

/-- The slot, the side and the channel of an end. -/
def sideOf (cs : List (Option Ch)) (e : Int) : Option (Nat × Bool × Ch) :=
  if 0 ≤ e ∧ e < 2 * (cs.length : Int) then
    match cs[(e / 2).toNat]? with
    | some (some c) => some ((e / 2).toNat, decide (e % 2 = 1), c)
    | _ => none
  else none

def Ch.o (c : Ch) (s : Bool) : Bool := if s then c.o1 else c.o0
def Ch.l (c : Ch) (s : Bool) : List Int := if s then c.l1 else c.l0

theorem sideOf_some {cs : List (Option Ch)} {e : Int} {i s c} (h : sideOf cs e = some (i, s, c)) : i < cs.length ∧ cs[i]? = some (some c) ∧ e = 2 * (i : Int) + (if s then 1 else 0) := by
  unfold sideOf at h
  split at h
  · rename_i hr
    split at h
    · rename_i c' hc
      simp only [Option.some.injEq, Prod.mk.injEq] at h
      obtain ⟨rfl, rfl, rfl⟩ := h
      refine ⟨by omega, hc, ?_⟩
      by_cases hp : e % 2 = 1
      · simp only [hp, decide_true, if_true]; omega
      · simp only [hp, decide_false, Bool.false_eq_true, if_false]; omega
    · cases h
  · cases h

theorem sideOf_mk {cs : List (Option Ch)} {i : Nat} {s : Bool} {c : Ch} (hc : cs[i]? = some (some c)) : sideOf cs (2 * (i : Int) + (if s then 1 else 0)) = some (i, s, c) := by
  have hi : i < cs.length := by
    rcases Nat.lt_or_ge i cs.length with h | h
    · exact h
    · rw [List.getElem?_eq_none h] at hc; cases hc
  cases s
  · simp only [Bool.false_eq_true, if_false, Int.add_zero]
    have e1 : (2 * (i : Int) / 2).toNat = i := by omega
    have e2 : ¬ 2 * (i : Int) % 2 = 1 := by omega
    unfold sideOf
    rw [if_pos (by omega), e1, hc]
    simp [e2]
  · simp only [if_true]
    have e1 : ((2 * (i : Int) + 1) / 2).toNat = i := by omega
    have e2 : (2 * (i : Int) + 1) % 2 = 1 := by omega
    unfold sideOf
    rw [if_pos (by omega), e1, hc]
    simp [e2]

theorem sideOf_none {cs : List (Option Ch)} {e : Int} (h : sideOf cs e = none) : e < 0 ∨ 2 * (cs.length : Int) ≤ e ∨ ∃ (i : Nat) (z : Int), (z = 0 ∨ z = 1) ∧ i < cs.length ∧ cs[i]? = some none ∧ e = 2 * (i : Int) + z := by
  by_cases h0 : e < 0
  · exact .inl h0
  by_cases h1 : 2 * (cs.length : Int) ≤ e
  · exact .inr (.inl h1)
  refine .inr (.inr ⟨(e / 2).toNat, e % 2, by omega, by omega, ?_, by omega⟩)
  unfold sideOf at h
  rw [if_pos (by omega)] at h
  have hi : (e / 2).toNat < cs.length := by omega
  rw [List.getElem?_eq_getElem hi] at h ⊢
  cases hc : cs[(e / 2).toNat] with
  | none => rfl
  | some c => rw [hc] at h; cases h

theorem find_no {w : World} {tb sb n m cs} (h : TabIs w tb sb n m cs) (e : Int) (he : sideOf cs e = none) :
    Calls Try.prog 58 #[.pointer (some ⟨tb, 0, none⟩), .int .i64 e] w fun r w' => r = .returned (.tuple #[.agg #[.pointer none, .int .i64 0], .bool false]) ∧ Turn Nn w w' := by
  have hl := h.len
  rcases sideOf_none he with h0 | h0 | ⟨i, z, hz, hi, hc, rfl⟩
  · exact find_neg h e h0
  · exact find_far h e (by rw [hl] at h0; exact h0)
  · exact find_free h i z hz (by omega) hc

theorem find_yes {w : World} {tb sb n m cs} (h : TabIs w tb sb n m cs) (e : Int) {i s c} (he : sideOf cs e = some (i, s, c)) :
    Calls Try.prog 58 #[.pointer (some ⟨tb, 0, none⟩), .int .i64 e] w fun r w' => r = .returned (.tuple #[sideV (c.base + 2) s, .bool true]) ∧ Turn Nn w w' := by
  obtain ⟨h1, h2, rfl⟩ := sideOf_some he
  have hl := h.len
  exact find_ok h i _ (by cases s <;> simp) (by omega) h2
end Go.Proofs.Ytjnekmdocbmofaa
