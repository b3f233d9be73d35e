/- Plain lists for the queue. -/
namespace Go.Proofs.Ytjnekmdocbmofaa
set_option linter.unusedSimpArgs false
set_option linter.unusedVariables false

theorem outs_small (L : List Int) (n : Nat) (h : L.length ≤ n) : (L ++ List.replicate n 0).take n = L ++ List.replicate (n - L.length) 0 := by
  rw [List.take_append, List.take_of_length_le h, List.take_replicate]
  congr 2
  omega

theorem outs_big (L : List Int) (n : Nat) (h : n ≤ L.length) : (L ++ List.replicate n 0).take n = L.take n := by
  rw [List.take_append_of_le_length h]

theorem outs_step (L rl : List Int) (n c : Nat) (h : L.length < n) (hc : c = min rl.length (n - L.length)) :
    ((L ++ List.replicate n 0).take n).take L.length ++ rl.take c ++ ((L ++ List.replicate n 0).take n).drop (L.length + c) = ((L ++ rl) ++ List.replicate n 0).take n := by
  rw [outs_small L n (by omega)]
  rw [List.take_append_of_le_length (Nat.le_refl _), List.take_of_length_le (Nat.le_refl _)]
  by_cases h2 : rl.length ≤ n - L.length
  · have e : c = rl.length := by omega
    subst e
    rw [outs_small (L ++ rl) n (by simp; omega)]
    rw [List.take_of_length_le (Nat.le_refl _), List.drop_append, List.drop_of_length_le (by omega), List.drop_replicate]
    simp
    omega
  · have e : c = n - L.length := by omega
    subst e
    rw [outs_big (L ++ rl) n (by simp; omega)]
    rw [List.drop_of_length_le (by simp), List.take_append, List.take_of_length_le (l := L) (by omega)]
    simp
end Go.Proofs.Ytjnekmdocbmofaa
