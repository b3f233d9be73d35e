/- Plain lists: numbers as texts. -/
import Derived.Lib.ItoaNum
import Derived.Lib.AtoiAll
namespace Go.Proofs.YtjnllclpdllceaaGreatDoor
set_option linter.unusedSimpArgs false
set_option linter.unusedVariables false
open Go.Lib

theorem decDigits_small {n : Nat} (h : n < 10) : decDigits n = [UInt8.ofNat (48 + n)] := by rw [decDigits, dif_pos h]
theorem decDigits_big {n : Nat} (h : ¬ n < 10) : decDigits n = decDigits (n / 10) ++ [UInt8.ofNat (48 + n % 10)] := by rw [decDigits, dif_neg h]

theorem decDigits_ne (n : Nat) : decDigits n ≠ [] := by
  by_cases h : n < 10
  · rw [decDigits_small h]; simp
  · rw [decDigits_big h]; simp

theorem digit_toNat {k : Nat} (h : k < 10) : (UInt8.ofNat (48 + k)).toNat = 48 + k := by
  rw [UInt8.toNat_ofNat']; omega

theorem decDigits_digit (n : Nat) : ∀ c ∈ decDigits n, 48 ≤ c.toNat ∧ c.toNat ≤ 57 := by
  induction n using Nat.strongRecOn with
  | _ n ih =>
    by_cases h : n < 10
    · rw [decDigits_small h]
      intro c hc
      rw [List.mem_singleton] at hc
      subst hc
      rw [digit_toNat h]; omega
    · rw [decDigits_big h]
      intro c hc
      rcases List.mem_append.1 hc with hc | hc
      · exact ih (n / 10) (by omega) c hc
      · rw [List.mem_singleton] at hc
        subst hc
        rw [digit_toNat (by omega)]; omega

theorem parseUint10_append : ∀ (a b : List UInt8) (acc u : Nat), parseUint10 acc a = .ok u → parseUint10 acc (a ++ b) = parseUint10 u b
  | [], b, acc, u, h => by
    simp only [parseUint10] at h
    injection h with h
    subst h; rfl
  | c :: r, b, acc, u, h => by
    simp only [parseUint10, List.cons_append] at h ⊢
    split at h
    · rename_i hd
      rw [if_pos hd]
      split at h
      · cases h
      · rename_i h1
        rw [if_neg h1]
        split at h
        · cases h
        · rename_i h2
          rw [if_neg h2]
          exact parseUint10_append r b _ u h
    · cases h

theorem parse_decDigits (n : Nat) (hn : n < 1000000000000000000) : parseUint10 0 (decDigits n) = .ok n := by
  induction n using Nat.strongRecOn with
  | _ n ih =>
    by_cases h : n < 10
    · rw [decDigits_small h]
      simp only [parseUint10, digit_toNat h]
      rw [if_pos (by omega), if_neg (by omega), if_neg (by omega)]
      congr 1
      omega
    · rw [decDigits_big h, parseUint10_append _ _ 0 (n / 10) (ih (n / 10) (by omega) (by omega))]
      simp only [parseUint10, digit_toNat (show n % 10 < 10 by omega)]
      rw [if_pos (by omega), if_neg (by omega), if_neg (by omega)]
      congr 1
      omega

theorem atoi_decDigits (n : Nat) (hn : n < 1000000000000000000) : atoiAll (decDigits n) = .ok (n : Int) := by
  have hp := parse_decDigits n hn
  have hd := decDigits_digit n
  cases hl : decDigits n with
  | nil => exact absurd hl (decDigits_ne n)
  | cons c r =>
    rw [hl] at hp hd
    have hc := hd c (List.mem_cons_self)
    unfold atoiAll
    simp only
    rw [if_neg (by omega)]
    unfold parseMag
    rw [if_neg (by simp), hp]
    simp only
    rw [if_neg (by omega), if_neg (by omega), if_neg (by omega)]

theorem itoa_nat (n : Nat) : itoa (n : Int) = decDigits n := by
  unfold itoa
  rw [if_neg (by omega)]
  simp

/-- What the program reads as a number. -/
def numL (l : List UInt8) : Option Nat := match atoiAll l with
  | .ok v => if 0 ≤ v ∧ l.length ≤ 9 ∧ itoa v = l then some v.toNat else none
  | _ => none

theorem nDigits_le9 {n : Nat} (h : nDigits n ≤ 9) : n < 1000000000 := by
  have h1 := lt_pow_nDigits n
  have h2 : 10 ^ nDigits n ≤ 10 ^ 9 := Nat.pow_le_pow_right (by omega) h
  omega

theorem nDigits_of_lt {n : Nat} (h : n < 1000000000) : nDigits n ≤ 9 := by
  apply Nat.le_of_not_lt
  intro h9
  have key : ∀ (k n : Nat), nDigits n = k + 1 → k = 0 ∨ 10 ^ k ≤ n := by
    intro k
    induction k with
    | zero => intro n _; exact .inl rfl
    | succ k ih =>
      intro n hn
      right
      by_cases hs : n < 10
      · rw [nDigits_small hs] at hn; omega
      · rw [nDigits_big hs] at hn
        rcases ih (n / 10) (by omega) with h0 | h0
        · subst h0; rw [Nat.pow_one]; omega
        · rw [Nat.pow_succ]; omega
  obtain ⟨k, hk⟩ : ∃ k, nDigits n = k + 1 := ⟨nDigits n - 1, by have := nDigits_pos n; omega⟩
  rcases key k n hk with h0 | h0
  · omega
  · have h2 : 10 ^ 9 ≤ 10 ^ k := Nat.pow_le_pow_right (by omega) (by omega)
    omega

theorem numL_some {l : List UInt8} {n : Nat} : numL l = some n ↔ l = decDigits n ∧ n < 1000000000 := by
  constructor
  · intro h
    unfold numL at h
    split at h
    · rename_i v hv
      split at h
      · rename_i hc
        obtain ⟨h0, h1, h2⟩ := hc
        simp only [Option.some.injEq] at h
        obtain ⟨k, rfl⟩ : ∃ k : Nat, v = k := ⟨v.toNat, by omega⟩
        rw [itoa_nat] at h2
        have : k = n := by omega
        subst this
        refine ⟨h2.symm, nDigits_le9 ?_⟩
        rw [← decDigits_length, h2]; exact h1
      · cases h
    · cases h
  · rintro ⟨rfl, h⟩
    unfold numL
    rw [atoi_decDigits n (by omega)]
    simp only
    rw [if_pos ⟨by omega, by rw [decDigits_length]; exact nDigits_of_lt h, itoa_nat n⟩]
    simp
end Go.Proofs.YtjnllclpdllceaaGreatDoor
