/- Plain lists: what the document reads as a number is what the program does. -/
import Derived.Test.YtjnllclpdllceaaGreatDoorSu
namespace Go.Proofs.YtjnllclpdllceaaGreatDoor
set_option linter.unusedSimpArgs false
set_option linter.unusedVariables false
open Go.Lib

/-- The document's reading of digits. -/
def valGo : Nat → Bs → Option Nat
  | acc, [] => some acc
  | acc, c :: r => if 48 ≤ c.toNat ∧ c.toNat ≤ 57 then valGo (10 * acc + (c.toNat - 48)) r else none
def refNum (l : Bs) : Option Nat := if l.length < 1 ∨ 9 < l.length ∨ (l.head? = some 48 ∧ 1 < l.length) then none else valGo 0 l

theorem headq : ∀ (a b : Bs), a ≠ [] → (a ++ b).head? = a.head?
  | [], _, h => absurd rfl h
  | _ :: _, _, _ => rfl

theorem valGo_append : ∀ (a b : Bs) (acc : Nat), valGo acc (a ++ b) = (valGo acc a).bind fun u => valGo u b
  | [], b, acc => rfl
  | c :: r, b, acc => by
    simp only [List.cons_append, valGo]
    split
    · exact valGo_append r b _
    · rfl

theorem valGo_dec (n : Nat) : valGo 0 (decDigits n) = some n := by
  induction n using Nat.strongRecOn with
  | _ n ih =>
    by_cases h : n < 10
    · rw [decDigits_small h]
      simp only [valGo, digit_toNat h]
      rw [if_pos (by omega)]
      congr 1
      omega
    · rw [decDigits_big h, valGo_append, ih (n / 10) (by omega)]
      simp only [Option.bind_some, valGo, digit_toNat (show n % 10 < 10 by omega)]
      rw [if_pos (by omega)]
      congr 1
      omega

theorem decDigits_pos_head (n : Nat) (h : 0 < n) : (decDigits n).head? ≠ some 48 := by
  induction n using Nat.strongRecOn with
  | _ n ih =>
    by_cases hs : n < 10
    · rw [decDigits_small hs]
      simp only [List.head?_cons, ne_eq, Option.some.injEq]
      intro e
      have := digit_toNat hs
      rw [e] at this
      have h48 : (48 : UInt8).toNat = 48 := rfl
      omega
    · rw [decDigits_big hs]
      have hne := decDigits_ne (n / 10)
      rw [headq _ _ hne]
      exact ih (n / 10) (by omega) (by omega)

theorem dec_val : ∀ (k : Nat) (l : Bs) (n : Nat), l.length = k → l ≠ [] → ¬ (l.head? = some 48 ∧ 1 < l.length) → valGo 0 l = some n → decDigits n = l
  | 0, l, n, hk, hne, _, _ => absurd (List.length_eq_zero_iff.1 hk) hne
  | k + 1, l, n, hk, hne, h0, hv => by
    obtain ⟨r, c, rfl⟩ : ∃ r c, l = r ++ [c] := ⟨l.dropLast, l.getLast hne, (List.dropLast_concat_getLast hne).symm⟩
    rw [valGo_append] at hv
    cases hm : valGo 0 r with
    | none => rw [hm] at hv; cases hv
    | some m =>
      rw [hm] at hv
      simp only [Option.bind_some, valGo] at hv
      split at hv
      · rename_i hd
        simp only [Option.some.injEq] at hv
        have hc : ∀ j, j = c.toNat - 48 → UInt8.ofNat (48 + j) = c := by
          rintro j rfl
          apply UInt8.toNat_inj.1
          rw [UInt8.toNat_ofNat']; omega
        by_cases hr : r = []
        · subst hr
          simp only [valGo, Option.some.injEq] at hm
          subst hm
          rw [decDigits_small (by omega), hc n (by omega)]
          rfl
        · have hh : (r ++ [c]).head? = r.head? := headq _ _ hr
          have hlen : 1 < (r ++ [c]).length := by
            have := List.length_pos_iff.2 hr
            simp; omega
          have h1 : r.head? ≠ some 48 := by
            intro e
            exact h0 ⟨hh.trans e, hlen⟩
          have ih := dec_val k r m (by simp at hk; omega) hr (fun h => h1 h.1) hm
          have hm0 : 0 < m := by
            apply Nat.pos_of_ne_zero
            rintro rfl
            rw [decDigits_small (by omega)] at ih
            rw [← ih] at h1
            exact h1 rfl
          rw [decDigits_big (by omega), show n / 10 = m by omega, ih, hc (n % 10) (by omega)]
      · cases hv

theorem refNum_numL (l : Bs) : refNum l = numL l := by
  apply Option.ext
  intro n
  rw [numL_some]
  unfold refNum
  constructor
  · intro h
    split at h
    · cases h
    · rename_i hc
      have hne : l ≠ [] := by rintro rfl; exact hc (.inl (by simp))
      have hd := dec_val _ l n rfl hne (fun h => hc (.inr (.inr h))) h
      refine ⟨hd.symm, nDigits_le9 ?_⟩
      rw [← decDigits_length, hd]
      omega
  · rintro ⟨rfl, hn⟩
    rw [if_neg, valGo_dec]
    have h1 := nDigits_pos n
    have h2 := nDigits_of_lt hn
    rw [← decDigits_length] at h1 h2
    rintro (h | h | ⟨h, h3⟩)
    · omega
    · omega
    · by_cases h0 : 0 < n
      · exact decDigits_pos_head n h0 h
      · obtain rfl : n = 0 := by omega
        rw [decDigits_small (by omega)] at h3
        simp at h3
end Go.Proofs.YtjnllclpdllceaaGreatDoor
