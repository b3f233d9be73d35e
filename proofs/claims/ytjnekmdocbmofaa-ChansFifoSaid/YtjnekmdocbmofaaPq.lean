/- Plain lists: the ring and its words. -/
import Derived.Test.YtjnekmdocbmofaaPl
namespace Go.Proofs.Ytjnekmdocbmofaa
set_option linter.unusedSimpArgs false
set_option linter.unusedVariables false

def ringList (r : List Int) (f n m : Nat) : List Int := (List.range n).map fun i => r[(f + i) % m]?.getD 0

theorem mod_ring {f i m : Nat} (hf : f < m) (hi : i ≤ m) : (f + i) % m = if f + i < m then f + i else f + i - m := by
  split
  · exact Nat.mod_eq_of_lt ‹_›
  · rw [Nat.mod_eq_sub_mod (by omega), Nat.mod_eq_of_lt (by omega)]

theorem pieces_ring (r : List Int) (f n m : Nat) (hr : r.length = 16) (hm : m ≤ 16) (hf : f < m) (hn : n ≤ m) :
    (r.drop f).take (min (f + n) m - f) ++ (r.drop 0).take (f + n - min (f + n) m) = ringList r f n m := by
  apply List.ext_getElem?
  intro i
  simp only [ringList, List.getElem?_map, List.getElem?_append, List.getElem?_take, List.getElem?_drop, List.length_take, List.length_drop, hr]
  by_cases hi : i < n
  · rw [List.getElem?_range hi, Option.map_some, mod_ring hf (by omega)]
    by_cases h1 : f + i < m
    · rw [if_pos (by omega), if_pos (by omega), if_pos h1]
      rw [List.getElem?_eq_getElem (by omega)]; simp
    · rw [if_neg (by omega), if_neg h1]
      have e : i - min (min (f + n) m - f) (16 - f) = f + i - m := by omega
      rw [e, if_pos (by omega), Nat.zero_add, List.getElem?_eq_getElem (by omega)]; simp
  · rw [List.getElem?_eq_none (l := List.range n) (by simp; omega)]
    simp only [Option.map_none]
    rw [if_neg (by omega), if_neg (by omega)]

theorem ring_put (r : List Int) (f n m : Nat) (x : Int) (hr : r.length = 16) (hm : m ≤ 16) (hf : f < m) (hn : n < m) :
    ringList (r.set ((f + n) % m) x) f (n + 1) m = ringList r f n m ++ [x] := by
  unfold ringList
  rw [List.range_succ, List.map_append]
  congr 1
  · apply List.map_congr_left
    intro i hi
    have hi : i < n := List.mem_range.1 hi
    rw [List.getElem?_set_ne]
    rw [mod_ring hf (by omega), mod_ring hf (by omega)]
    split <;> split <;> omega
  · have : (f + n) % m < 16 := by have := Nat.mod_lt (f + n) (show 0 < m by omega); omega
    simp [hr, this]

theorem ring_take (r : List Int) (f n m : Nat) (hf : f < m) (hn : 0 < n) (hm : n ≤ m) :
    ringList r f n m = r[f]?.getD 0 :: ringList r ((f + 1) % m) (n - 1) m := by
  unfold ringList
  obtain ⟨k, rfl⟩ : ∃ k, n = k + 1 := ⟨n - 1, by omega⟩
  rw [List.range_succ_eq_map, List.map_cons, List.map_map, Nat.add_sub_cancel]
  congr 1
  · rw [Nat.add_zero, Nat.mod_eq_of_lt hf]
  · apply List.map_congr_left
    intro i _
    simp only [Function.comp, Nat.mod_add_mod]
    rw [show f + 1 + i = f + (i + 1) by omega]
end Go.Proofs.Ytjnekmdocbmofaa
