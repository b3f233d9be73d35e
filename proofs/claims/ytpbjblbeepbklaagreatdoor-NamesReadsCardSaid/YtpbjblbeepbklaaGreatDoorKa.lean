/- Plain lists: numbers as texts. Plain lists: names as texts. Plain lists: the order of names. Plain lists: events as texts. Plain lists: an event comes back from its text. Plain lists: what the document reads as a number is what the program does. Plain lists: the document's text of an event, and what it reads. Plain lists: what the document reads. Plain lists: names of numbers. -/
import Derived.Lib.ItoaNum
import Derived.Lib.AtoiAll
import Derived.Lib.ItoaMem
namespace Go.Proofs.YtpbjblbeepbklaaGreatDoor
set_option linter.unusedSimpArgs false
set_option linter.unusedVariables false
section
open Go.Lib

theorem decDigits_small {n : Nat} (h : n < 10) : decDigits n = [UInt8.ofNat (48 + n)] := by rw [decDigits, dif_pos h]
theorem decDigits_big {n : Nat} (h : ¬ n < 10) : decDigits n = decDigits (n / 10) ++ [UInt8.ofNat (48 + n % 10)] := by rw [decDigits, dif_neg h]
theorem decDigits_ne (n : Nat) : decDigits n ≠ [] := by
  by_cases h : n < 10
  · rw [decDigits_small h]; simp
  · rw [decDigits_big h]; simp
theorem digit_toNat {k : Nat} (h : k < 10) : (UInt8.ofNat (48 + k)).toNat = 48 + k := by
  rw [UInt8.toNat_ofNat']; omega
theorem decDigits_digit (n : Nat) : ∀ c ∈ decDigits n, 48 ≤ c.toNat ∧ c.toNat ≤ 57 := by
  induction n using Nat.strongRecOn with
  | _ n ih =>
    by_cases h : n < 10
    · rw [decDigits_small h]
      intro c hc
      rw [List.mem_singleton] at hc
      subst hc
      rw [digit_toNat h]; omega
    · rw [decDigits_big h]
      intro c hc
      rcases List.mem_append.1 hc with hc | hc
      · exact ih (n / 10) (by omega) c hc
      · rw [List.mem_singleton] at hc
        subst hc
        rw [digit_toNat (by omega)]; omega
theorem parseUint10_append : ∀ (a b : List UInt8) (acc u : Nat), parseUint10 acc a = .ok u → parseUint10 acc (a ++ b) = parseUint10 u b
  | [], b, acc, u, h => by
    simp only [parseUint10] at h
    injection h with h
    subst h; rfl
  | c :: r, b, acc, u, h => by
    simp only [parseUint10, List.cons_append] at h ⊢
    split at h
    · rename_i hd
      rw [if_pos hd]
      split at h
      · cases h
      · rename_i h1
        rw [if_neg h1]
        split at h
        · cases h
        · rename_i h2
          rw [if_neg h2]
          exact parseUint10_append r b _ u h
    · cases h
theorem parse_decDigits (n : Nat) (hn : n < 1000000000000000000) : parseUint10 0 (decDigits n) = .ok n := by
  induction n using Nat.strongRecOn with
  | _ n ih =>
    by_cases h : n < 10
    · rw [decDigits_small h]
      simp only [parseUint10, digit_toNat h]
      rw [if_pos (by omega), if_neg (by omega), if_neg (by omega)]
      congr 1
      omega
    · rw [decDigits_big h, parseUint10_append _ _ 0 (n / 10) (ih (n / 10) (by omega) (by omega))]
      simp only [parseUint10, digit_toNat (show n % 10 < 10 by omega)]
      rw [if_pos (by omega), if_neg (by omega), if_neg (by omega)]
      congr 1
      omega
theorem atoi_decDigits (n : Nat) (hn : n < 1000000000000000000) : atoiAll (decDigits n) = .ok (n : Int) := by
  have hp := parse_decDigits n hn
  have hd := decDigits_digit n
  cases hl : decDigits n with
  | nil => exact absurd hl (decDigits_ne n)
  | cons c r =>
    rw [hl] at hp hd
    have hc := hd c (List.mem_cons_self)
    unfold atoiAll
    simp only
    rw [if_neg (by omega)]
    unfold parseMag
    rw [if_neg (by simp), hp]
    simp only
    rw [if_neg (by omega), if_neg (by omega), if_neg (by omega)]
theorem itoa_nat (n : Nat) : itoa (n : Int) = decDigits n := by
  unfold itoa
  rw [if_neg (by omega)]
  simp
/-- What the program reads as a number. -/
def numL (l : List UInt8) : Option Nat := match atoiAll l with
  | .ok v => if 0 ≤ v ∧ l.length ≤ 9 ∧ itoa v = l then some v.toNat else none
  | _ => none
theorem nDigits_le9 {n : Nat} (h : nDigits n ≤ 9) : n < 1000000000 := by
  have h1 := lt_pow_nDigits n
  have h2 : 10 ^ nDigits n ≤ 10 ^ 9 := Nat.pow_le_pow_right (by omega) h
  omega
theorem nDigits_of_lt {n : Nat} (h : n < 1000000000) : nDigits n ≤ 9 := by
  apply Nat.le_of_not_lt
  intro h9
  have key : ∀ (k n : Nat), nDigits n = k + 1 → k = 0 ∨ 10 ^ k ≤ n := by
    intro k
    induction k with
    | zero => intro n _; exact .inl rfl
    | succ k ih =>
      intro n hn
      right
      by_cases hs : n < 10
      · rw [nDigits_small hs] at hn; omega
      · rw [nDigits_big hs] at hn
        rcases ih (n / 10) (by omega) with h0 | h0
        · subst h0; rw [Nat.pow_one]; omega
        · rw [Nat.pow_succ]; omega
  obtain ⟨k, hk⟩ : ∃ k, nDigits n = k + 1 := ⟨nDigits n - 1, by have := nDigits_pos n; omega⟩
  rcases key k n hk with h0 | h0
  · omega
  · have h2 : 10 ^ 9 ≤ 10 ^ k := Nat.pow_le_pow_right (by omega) (by omega)
    omega
theorem numL_some {l : List UInt8} {n : Nat} : numL l = some n ↔ l = decDigits n ∧ n < 1000000000 := by
  constructor
  · intro h
    unfold numL at h
    split at h
    · rename_i v hv
      split at h
      · rename_i hc
        obtain ⟨h0, h1, h2⟩ := hc
        simp only [Option.some.injEq] at h
        obtain ⟨k, rfl⟩ : ∃ k : Nat, v = k := ⟨v.toNat, by omega⟩
        rw [itoa_nat] at h2
        have : k = n := by omega
        subst this
        refine ⟨h2.symm, nDigits_le9 ?_⟩
        rw [← decDigits_length, h2]; exact h1
      · cases h
    · cases h
  · rintro ⟨rfl, h⟩
    unfold numL
    rw [atoi_decDigits n (by omega)]
    simp only
    rw [if_pos ⟨by omega, by rw [decDigits_length]; exact nDigits_of_lt h, itoa_nat n⟩]
    simp
end
section
open Go.Lib

abbrev Bs := List UInt8
/-- What stands between bytes. -/
def spC (c : UInt8) : Bs → List Bs
  | [] => [[]]
  | x :: r => if x = c then [] :: spC c r else match spC c r with
    | [] => [[x]]
    | w :: ws => (x :: w) :: ws
theorem spC_ne (c : UInt8) : ∀ l, spC c l ≠ []
  | [] => by simp [spC]
  | x :: r => by
    unfold spC
    split
    · simp
    · split <;> simp
theorem spC_word (c : UInt8) : ∀ (a b : Bs), (∀ x ∈ a, x ≠ c) → spC c (a ++ c :: b) = a :: spC c b
  | [], b, _ => by simp [spC]
  | x :: r, b, h => by
    have hx : x ≠ c := h x (List.mem_cons_self)
    have := spC_word c r b (fun y hy => h y (List.mem_cons_of_mem _ hy))
    simp only [List.cons_append, spC, hx, if_false, this]
theorem spC_last (c : UInt8) : ∀ (a : Bs), (∀ x ∈ a, x ≠ c) → spC c a = [a]
  | [], _ => by simp [spC]
  | x :: r, h => by
    have hx : x ≠ c := h x (List.mem_cons_self)
    have := spC_last c r (fun y hy => h y (List.mem_cons_of_mem _ hy))
    simp only [spC, hx, if_false, this]
def joinC (c : UInt8) : List Bs → Bs
  | [] => []
  | [w] => w
  | w :: x :: r => w ++ c :: joinC c (x :: r)
theorem joinC_spC (c : UInt8) : ∀ l : Bs, joinC c (spC c l) = l
  | [] => rfl
  | x :: r => by
    have ih := joinC_spC c r
    unfold spC
    cases h : spC c r with
    | nil => exact absurd h (spC_ne c r)
    | cons w ws =>
      rw [h] at ih
      split
      · rename_i e; subst e; simp only [joinC, List.nil_append, ih]
      · cases ws with
        | nil => simp only [joinC] at ih ⊢; rw [ih]
        | cons y ys => simp only [joinC, List.cons_append] at ih ⊢; rw [ih]
theorem spC_joinC (c : UInt8) : ∀ (l : List Bs), l ≠ [] → (∀ w ∈ l, ∀ x ∈ w, x ≠ c) → spC c (joinC c l) = l
  | [], h, _ => absurd rfl h
  | [w], _, h => spC_last c w (h w (List.mem_cons_self))
  | w :: y :: r, _, h => by
    rw [joinC, spC_word c w _ (h w (List.mem_cons_self)), spC_joinC c (y :: r) (by simp) (fun v hv => h v (List.mem_cons_of_mem _ hv))]
/-- Split where a byte stands last. -/
def lastC (c : UInt8) : Bs → Option (Bs × Bs)
  | [] => none
  | x :: r => match lastC c r with
    | some (a, b) => some (x :: a, b)
    | none => if x = c then some ([], r) else none
theorem lastC_none {c : UInt8} : ∀ {l : Bs}, lastC c l = none ↔ ∀ x ∈ l, x ≠ c
  | [] => by simp [lastC]
  | y :: r => by
    have ih := @lastC_none c r
    unfold lastC
    cases h : lastC c r with
    | none =>
      rw [h] at ih
      have ih := ih.1 rfl
      by_cases hy : y = c
      · simp [hy]
      · simp only [hy, if_false, List.mem_cons, forall_eq_or_imp, ne_eq, not_false_eq_true, true_and]
        exact ⟨fun _ => ih, fun _ => trivial⟩
    | some p =>
      obtain ⟨a, b⟩ := p
      rw [h] at ih
      simp only [reduceCtorEq, List.mem_cons, forall_eq_or_imp, false_iff, not_and]
      intro _ hh
      exact absurd (ih.2 hh) (by simp)
theorem lastC_some {c : UInt8} : ∀ {l a b : Bs}, lastC c l = some (a, b) ↔ l = a ++ c :: b ∧ ∀ x ∈ b, x ≠ c
  | [], a, b => by
    simp only [lastC, reduceCtorEq, false_iff, not_and]
    intro h; cases a <;> cases h
  | y :: r, a, b => by
    have ih := @lastC_some c r
    unfold lastC
    cases h : lastC c r with
    | none =>
      have hn := lastC_none.1 h
      by_cases hy : y = c
      · simp only [hy, if_true, Option.some.injEq, Prod.mk.injEq]
        constructor
        · rintro ⟨rfl, rfl⟩; exact ⟨rfl, hn⟩
        · rintro ⟨e, hb⟩
          cases a with
          | nil => simp only [List.nil_append, List.cons.injEq, true_and] at e; exact ⟨rfl, e⟩
          | cons z a =>
            exfalso
            simp only [List.cons_append, List.cons.injEq] at e
            exact hn c (by rw [e.2]; simp) rfl
      · simp only [hy, if_false, reduceCtorEq, false_iff, not_and]
        intro e
        cases a with
        | nil => simp only [List.nil_append, List.cons.injEq] at e; exact absurd e.1 hy
        | cons z a =>
          exfalso
          simp only [List.cons_append, List.cons.injEq] at e
          exact hn c (by rw [e.2]; simp) rfl
    | some p =>
      obtain ⟨a', b'⟩ := p
      have := (ih (a := a') (b := b')).1 h
      obtain ⟨hr, hb'⟩ := this
      simp only [Option.some.injEq, Prod.mk.injEq]
      constructor
      · rintro ⟨rfl, rfl⟩; exact ⟨by rw [hr]; rfl, hb'⟩
      · rintro ⟨e, hb⟩
        cases a with
        | nil =>
          exfalso
          simp only [List.nil_append, List.cons.injEq] at e
          exact hb c (by rw [← e.2, hr]; simp) rfl
        | cons z a =>
          simp only [List.cons_append, List.cons.injEq] at e
          obtain ⟨rfl, e⟩ := e
          have h2 := (ih (a := a) (b := b)).2 ⟨e, hb⟩
          rw [h] at h2
          simp only [Option.some.injEq, Prod.mk.injEq] at h2
          exact ⟨by rw [h2.1], h2.2⟩
/-- Words as numbers. -/
def numsL : List Bs → Option (List Nat)
  | [] => some []
  | w :: ws => match numL w with
    | none => none
    | some n => (numsL ws).map (n :: ·)
theorem numsL_some : ∀ {ws : List Bs} {l : List Nat}, numsL ws = some l ↔ ws = l.map decDigits ∧ ∀ n ∈ l, n < 1000000000
  | [], l => by
    simp only [numsL, Option.some.injEq]
    constructor
    · rintro rfl; simp
    · rintro ⟨h, _⟩; exact (List.map_eq_nil_iff.1 h.symm).symm
  | w :: ws, l => by
    have ih := @numsL_some ws
    unfold numsL
    cases hn : numL w with
    | none =>
      simp only [reduceCtorEq, false_iff, not_and]
      intro e h
      cases l with
      | nil => cases e
      | cons n l =>
        simp only [List.map_cons, List.cons.injEq] at e
        have := (numL_some (l := w) (n := n)).2 ⟨e.1, h n (List.mem_cons_self)⟩
        rw [hn] at this; cases this
    | some n =>
      obtain ⟨hw, hlt⟩ := numL_some.1 hn
      simp only [Option.map_eq_some_iff]
      constructor
      · rintro ⟨r, hr, rfl⟩
        obtain ⟨e, h⟩ := ih.1 hr
        refine ⟨by rw [List.map_cons, ← hw, ← e], fun m hm => ?_⟩
        rcases List.mem_cons.1 hm with rfl | hm
        · exact hlt
        · exact h m hm
      · rintro ⟨e, h⟩
        cases l with
        | nil => cases e
        | cons m l =>
          simp only [List.map_cons, List.cons.injEq] at e
          have h2 := (numL_some (l := w) (n := m)).2 ⟨e.1, h m (List.mem_cons_self)⟩
          rw [hn] at h2
          cases h2
          exact ⟨l, ih.2 ⟨e.2, fun k hk => h k (List.mem_cons_of_mem _ hk)⟩, rfl⟩
/-- An actor's name's parts. -/
def partsL (s : Bs) : Option (List Nat) := numsL (spC 46 s)
def actorL (s : Bs) : Bool := (partsL s).isSome
def textA (l : List Nat) : Bs := joinC 46 (l.map decDigits)
theorem dec_no {n : Nat} {c : UInt8} (hc : c.toNat < 48 ∨ 57 < c.toNat) : ∀ x ∈ decDigits n, x ≠ c := by
  intro x hx e
  have := decDigits_digit n x hx
  subst e; omega
theorem decs_no {l : List Nat} {c : UInt8} (hc : c.toNat < 48 ∨ 57 < c.toNat) : ∀ w ∈ l.map decDigits, ∀ x ∈ w, x ≠ c := by
  intro w hw
  obtain ⟨n, _, rfl⟩ := List.mem_map.1 hw
  exact dec_no hc
theorem partsL_some {s : Bs} {l : List Nat} : partsL s = some l ↔ s = textA l ∧ l ≠ [] ∧ ∀ n ∈ l, n < 1000000000 := by
  unfold partsL textA
  rw [numsL_some]
  constructor
  · rintro ⟨h, hl⟩
    refine ⟨by rw [← h, joinC_spC], ?_, hl⟩
    rintro rfl
    exact spC_ne 46 s h
  · rintro ⟨rfl, hne, hl⟩
    exact ⟨spC_joinC 46 _ (by simpa using hne) (decs_no (by decide)), hl⟩
theorem mem_joinC {c : UInt8} : ∀ {l : List Bs} {x : UInt8}, x ∈ joinC c l → x = c ∨ ∃ w ∈ l, x ∈ w
  | [], x, h => by cases h
  | [w], x, h => .inr ⟨w, List.mem_cons_self, h⟩
  | w :: y :: r, x, h => by
    rw [joinC] at h
    rcases List.mem_append.1 h with h | h
    · exact .inr ⟨w, List.mem_cons_self, h⟩
    · rcases List.mem_cons.1 h with h | h
      · exact .inl h
      · rcases mem_joinC h with h | ⟨v, hv, hx⟩
        · exact .inl h
        · exact .inr ⟨v, List.mem_cons_of_mem _ hv, hx⟩
/-- An actor's name is of digits and points. -/
theorem textA_no {l : List Nat} {c : UInt8} (h46 : c ≠ 46) (hc : c.toNat < 48 ∨ 57 < c.toNat) : ∀ x ∈ textA l, x ≠ c := by
  intro x hx e
  subst e
  rcases mem_joinC hx with h | ⟨w, hw, h⟩
  · exact h46 h
  · exact decs_no hc w hw x h rfl
theorem actorL_no {s : Bs} (h : actorL s = true) {c : UInt8} (h46 : c ≠ 46) (hc : c.toNat < 48 ∨ 57 < c.toNat) : ∀ x ∈ s, x ≠ c := by
  unfold actorL at h
  cases hp : partsL s with
  | none => rw [hp] at h; cases h
  | some l => rw [(partsL_some.1 hp).1]; exact textA_no h46 hc
/-- A boot channel's number. -/
def bootN : Bs → Option Nat
  | 99 :: r => numL r
  | _ => none
/-- A channel made by an actor: its maker's parts, its number. -/
def madeN (s : Bs) : Option (List Nat × Nat) := match lastC 43 s with
  | none => none
  | some (a, b) => match numL b, partsL a with
    | some k, some A => some (A, k)
    | _, _ => none
def keyL (s : Bs) : Option (List Int) := match bootN s with
  | some k => some [0, (k : Int)]
  | none => (madeN s).map fun p => 1 :: p.1.map Int.ofNat ++ [-1, (p.2 : Int)]
def chanL (s : Bs) : Bool := (keyL s).isSome
theorem bootN_some {s : Bs} {k : Nat} : bootN s = some k ↔ s = 99 :: decDigits k ∧ k < 1000000000 := by
  constructor
  · intro h
    unfold bootN at h
    split at h
    · obtain ⟨h1, h2⟩ := numL_some.1 h
      exact ⟨by rw [h1], h2⟩
    · cases h
  · rintro ⟨rfl, h⟩
    exact numL_some.2 ⟨rfl, h⟩
theorem madeN_some {s : Bs} {A : List Nat} {k : Nat} : madeN s = some (A, k) ↔ s = textA A ++ 43 :: decDigits k ∧ A ≠ [] ∧ (∀ n ∈ A, n < 1000000000) ∧ k < 1000000000 := by
  unfold madeN
  constructor
  · intro h
    split at h
    · cases h
    · rename_i a b hl
      split at h
      · rename_i k' A' hk hA
        cases h
        obtain ⟨hb, hk⟩ := numL_some.1 hk
        obtain ⟨ha, hne, hA⟩ := partsL_some.1 hA
        obtain ⟨hs, _⟩ := lastC_some.1 hl
        exact ⟨by rw [hs, ha, hb], hne, hA, hk⟩
      · cases h
  · rintro ⟨rfl, hne, hA, hk⟩
    rw [lastC_some.2 ⟨rfl, dec_no (by decide)⟩]
    simp only
    rw [numL_some.2 ⟨rfl, hk⟩, partsL_some.2 ⟨rfl, hne, hA⟩]
theorem keyL_some {s : Bs} (h : chanL s = true) : (∃ k, bootN s = some k) ∨ (bootN s = none ∧ ∃ A k, madeN s = some (A, k)) := by
  unfold chanL keyL at h
  split at h
  · rename_i k hk; exact .inl ⟨k, hk⟩
  · rename_i hb
    right
    refine ⟨hb, ?_⟩
    cases hm : madeN s with
    | none => rw [hm] at h; cases h
    | some p => exact ⟨p.1, p.2, rfl⟩
theorem textA_digit {A : List Nat} (h : A ≠ []) : ∃ c r, textA A = c :: r ∧ 48 ≤ c.toNat ∧ c.toNat ≤ 57 := by
  cases A with
  | nil => exact absurd rfl h
  | cons n A =>
    have hd := decDigits_digit n
    have hne := decDigits_ne n
    cases hn : decDigits n with
    | nil => exact absurd hn hne
    | cons c r =>
      rw [hn] at hd
      cases A with
      | nil => exact ⟨c, r, by unfold textA; simp only [List.map_cons, List.map_nil, joinC, hn], hd c (List.mem_cons_self)⟩
      | cons m A => exact ⟨c, r ++ 46 :: joinC 46 (decDigits m :: A.map decDigits), by unfold textA; simp only [List.map_cons, joinC, hn, List.cons_append], hd c (List.mem_cons_self)⟩
/-- No channel is an actor. -/
theorem chan_no_actor {s : Bs} (h : chanL s = true) : actorL s = false := by
  cases ha : actorL s with
  | false => rfl
  | true =>
    exfalso
    unfold actorL at ha
    cases hp : partsL s with
    | none => rw [hp] at ha; cases ha
    | some l =>
      obtain ⟨hs, hne, _⟩ := partsL_some.1 hp
      rcases keyL_some h with ⟨k, hk⟩ | ⟨_, A, k, hk⟩
      · obtain ⟨c, r, e, hc⟩ := textA_digit hne
        rw [hs, e] at hk
        have := (bootN_some.1 hk).1
        cases this
        have h99 : (99 : UInt8).toNat = 99 := rfl
        omega
      · obtain ⟨e, _⟩ := madeN_some.1 hk
        have : (43 : UInt8) ∈ s := by rw [e]; simp
        rw [hs] at this
        exact textA_no (c := 43) (by decide) (by decide) 43 this rfl
/-- An end: its channel, its side. -/
def endL (s : Bs) : Option (Bs × Nat) :=
  if s.drop (s.length - 2) = [58, 48] ∧ chanL (s.take (s.length - 2)) = true then some (s.take (s.length - 2), 0)
  else if s.drop (s.length - 2) = [58, 49] ∧ chanL (s.take (s.length - 2)) = true then some (s.take (s.length - 2), 1)
  else none
theorem endL_some {s c : Bs} {n : Nat} : endL s = some (c, n) ↔ chanL c = true ∧ ((n = 0 ∧ s = c ++ [58, 48]) ∨ (n = 1 ∧ s = c ++ [58, 49])) := by
  have key : ∀ x : Bs, x.length = 2 → (c ++ x).take ((c ++ x).length - 2) = c ∧ (c ++ x).drop ((c ++ x).length - 2) = x := by
    intro x hx
    have : (c ++ x).length - 2 = c.length := by simp; omega
    rw [this]
    exact ⟨List.take_left' rfl, List.drop_left' rfl⟩
  unfold endL
  constructor
  · intro h
    split at h
    · rename_i hc
      cases h
      refine ⟨hc.2, .inl ⟨rfl, ?_⟩⟩
      conv => lhs; rw [← List.take_append_drop (s.length - 2) s, hc.1]
    · split at h
      · rename_i hc
        cases h
        refine ⟨hc.2, .inr ⟨rfl, ?_⟩⟩
        conv => lhs; rw [← List.take_append_drop (s.length - 2) s, hc.1]
      · cases h
  · rintro ⟨hc, ⟨rfl, rfl⟩ | ⟨rfl, rfl⟩⟩
    · obtain ⟨h1, h2⟩ := key [58, 48] rfl
      rw [h1, h2, if_pos ⟨rfl, hc⟩]
    · obtain ⟨h1, h2⟩ := key [58, 49] rfl
      rw [h1, h2, if_neg (by intro h; exact absurd h.1 (by decide)), if_pos ⟨rfl, hc⟩]
/-- A name's parent. -/
def parentL (s : Bs) : Bs :=
  if chanL s = true then match lastC 43 s with
    | some (a, _) => a
    | none => []
  else if actorL s = true then match lastC 46 s with
    | some (a, _) => a
    | none => []
  else []
def cmpL {α : Type} (lt : α → α → Bool) [DecidableEq α] : List α → List α → Bool
  | [], [] => false
  | [], _ :: _ => true
  | _ :: _, [] => false
  | x :: a, y :: b => if x = y then cmpL lt a b else lt x y
def ltI (l m : List Int) : Bool := cmpL (fun a b : Int => decide (a < b)) l m
def lessL (a b : Bs) : Bool := match partsL a, partsL b with
  | some x, some y => ltI (x.map Int.ofNat) (y.map Int.ofNat)
  | _, _ => match keyL a, keyL b with
    | some x, some y => ltI x y
    | _, _ => false
end
section
open Go.Lib

section
variable {α : Type} [DecidableEq α] {lt : α → α → Bool}

end

theorem joinC_concat (c : UInt8) : ∀ (l : List Bs) (w : Bs), l ≠ [] → joinC c (l ++ [w]) = joinC c l ++ c :: w
  | [], _, h => absurd rfl h
  | [v], w, _ => rfl
  | v :: y :: r, w, _ => by
    have := joinC_concat c (y :: r) w (by simp)
    simp only [List.cons_append] at this ⊢
    rw [joinC, this, joinC]
    simp
theorem actor_no_chan {s : Bs} (h : actorL s = true) : chanL s = false := by
  cases hc : chanL s with
  | false => rfl
  | true => have := chan_no_actor hc; rw [h] at this; cases this
end
section
open Go.Lib

theorem parse_dec64 (n : Nat) (hn : n < 18446744073709551616) : parseUint10 0 (decDigits n) = .ok n := by
  induction n using Nat.strongRecOn with
  | _ n ih =>
    by_cases h : n < 10
    · rw [decDigits_small h]
      simp only [parseUint10, digit_toNat h]
      rw [if_pos (by omega), if_neg (by omega), if_neg (by omega)]
      congr 1
      omega
    · rw [decDigits_big h, parseUint10_append _ _ 0 (n / 10) (ih (n / 10) (by omega) (by omega))]
      simp only [parseUint10, digit_toNat (show n % 10 < 10 by omega)]
      rw [if_pos (by omega), if_neg (by omega), if_neg (by omega)]
      congr 1
      omega
def Int64 (v : Int) : Prop := -9223372036854775808 ≤ v ∧ v ≤ 9223372036854775807
theorem atoi_itoa {v : Int} (h : Int64 v) : atoiAll (itoa v) = .ok v := by
  unfold Int64 at h
  by_cases h0 : 0 ≤ v
  · obtain ⟨n, rfl⟩ : ∃ n : Nat, v = n := ⟨v.toNat, by omega⟩
    rw [itoa_nat]
    have hp := parse_dec64 n (by omega)
    have hd := decDigits_digit n
    cases hl : decDigits n with
    | nil => exact absurd hl (decDigits_ne n)
    | cons c r =>
      rw [hl] at hp hd
      have hc := hd c (List.mem_cons_self)
      unfold atoiAll
      simp only
      rw [if_neg (by omega)]
      unfold parseMag
      rw [if_neg (by simp), hp]
      simp only
      rw [if_neg (by omega), if_neg (by omega), if_neg (by omega)]
  · obtain ⟨n, rfl⟩ : ∃ n : Nat, v = -(n : Int) := ⟨(-v).toNat, by omega⟩
    rw [itoa_neg n (by omega)]
    have hp := parse_dec64 n (by omega)
    unfold atoiAll
    have e1 : (45 : UInt8).toNat = 45 := rfl
    simp only [e1, or_true, if_true]
    unfold parseMag
    rw [if_neg (decDigits_ne n), hp]
    simp only
    rw [if_neg (by simp), if_neg (by omega)]
/-- A whole number's text. -/
def wholeL (s : Bs) : Option Int := match atoiAll s with
  | .ok v => if itoa v = s then some v else none
  | _ => none
theorem wholeL_itoa {v : Int} (h : Int64 v) : wholeL (itoa v) = some v := by
  unfold wholeL; rw [atoi_itoa h]; exact if_pos rfl
theorem wholeL_some {s : Bs} {v : Int} (h : wholeL s = some v) : itoa v = s := by
  unfold wholeL at h
  split at h
  · split at h
    · rename_i e; cases h; exact e
    · cases h
  · cases h
structure EventD where
  kind : Int
  slot : Int
  actor : Bs
  pc : Int
  chan : Bs
  side : Int
  tag : Int
  word : Int
  name : Bs
  deriving DecidableEq
inductive Fld
  | word | label | made | child | place | handed
  deriving DecidableEq
structure RowD where
  kind : Int
  tag : Int
  word : Bs
  msg : Bs
  flds : List Fld
  deriving DecidableEq
def wIdle : Bs := [105, 100, 108, 101]
def wSilent : Bs := [115, 105, 108, 101, 110, 116]
def wHalted : Bs := [104, 97, 108, 116, 101, 100]
def wTrap : Bs := [116, 114, 97, 112]
def wOut : Bs := [111, 117, 116]
def wMade : Bs := [109, 97, 100, 101]
def wSpawned : Bs := [115, 112, 97, 119, 110, 101, 100]
def wClosed : Bs := [99, 108, 111, 115, 101, 100]
def wSent : Bs := [115, 101, 110, 116]
def wGot : Bs := [103, 111, 116]
def wWord : Bs := [119, 111, 114, 100]
def wLabel : Bs := [108, 97, 98, 101, 108]
def wEnd : Bs := [101, 110, 100]
def rowsD : List RowD := [⟨1, 0, wSilent, [], []⟩, ⟨8, 0, wHalted, [], []⟩, ⟨9, 0, wTrap, [], []⟩,
  ⟨4, 0, wOut, [], [.word]⟩, ⟨5, 0, wMade, [], [.made]⟩, ⟨6, 0, wSpawned, [], [.child]⟩, ⟨7, 0, wClosed, [], [.place]⟩,
  ⟨2, 0, wSent, wWord, [.place, .word]⟩, ⟨2, 1, wSent, wLabel, [.place, .label]⟩, ⟨2, 2, wSent, wEnd, [.place, .handed]⟩,
  ⟨3, 0, wGot, wWord, [.place, .word]⟩, ⟨3, 1, wGot, wLabel, [.place, .label]⟩, ⟨3, 2, wGot, wEnd, [.place, .handed]⟩]
def tellF : Fld → EventD → Option Bs
  | .word, e => some (itoa e.word)
  | .label, e => if 0 ≤ e.word ∧ e.word < 8 then some (itoa e.word) else none
  | .made, e => if chanL e.chan = true ∧ parentL e.chan = e.actor then some e.chan else none
  | .child, e => if actorL e.name = true ∧ parentL e.name = e.actor then some e.name else none
  | .place, e => if (endL (e.chan ++ 58 :: itoa e.side)).isSome then some (e.chan ++ 58 :: itoa e.side) else none
  | .handed, e => if (endL e.name).isSome then some e.name else none
def readF : Fld → EventD → Bs → Option EventD
  | .word, e, s => (wholeL s).map fun n => { e with word := n }
  | .label, e, s => match wholeL s with
    | some n => if 0 ≤ n ∧ n < 8 then some { e with word := n } else none
    | none => none
  | .made, e, s => if chanL s = true ∧ parentL s = e.actor then some { e with chan := s } else none
  | .child, e, s => if actorL s = true ∧ parentL s = e.actor then some { e with name := s } else none
  | .place, e, s => match endL s with
    | some (c, n) => some { e with chan := c, side := (n : Int) }
    | none => none
  | .handed, e, s => if (endL s).isSome then some { e with name := s } else none
/-- Cut at the first byte of a kind. -/
def cutC (c : UInt8) : Bs → Option (Bs × Bs)
  | [] => none
  | x :: r => if x = c then some ([], r) else (cutC c r).map fun p => (x :: p.1, p.2)
theorem cutC_some {c : UInt8} : ∀ {l a b : Bs}, cutC c l = some (a, b) → l = a ++ c :: b ∧ ∀ x ∈ a, x ≠ c
  | [], a, b, h => by cases h
  | x :: r, a, b, h => by
    unfold cutC at h
    split at h
    · rename_i e; cases h; subst e; exact ⟨rfl, by simp⟩
    · rename_i hx
      obtain ⟨p, hp, e⟩ := Option.map_eq_some_iff.1 h
      cases e
      obtain ⟨h1, h2⟩ := cutC_some (a := p.1) (b := p.2) hp
      refine ⟨by rw [h1]; rfl, fun y hy => ?_⟩
      rcases List.mem_cons.1 hy with rfl | hy
      · exact hx
      · exact h2 y hy
theorem cutC_at {c : UInt8} : ∀ {a b : Bs}, (∀ x ∈ a, x ≠ c) → cutC c (a ++ c :: b) = some (a, b)
  | [], b, _ => by unfold cutC; simp
  | x :: r, b, h => by
    have hx : x ≠ c := h x (List.mem_cons_self)
    rw [List.cons_append, cutC, if_neg hx, cutC_at (fun y hy => h y (List.mem_cons_of_mem _ hy))]
    rfl
def headW (r : RowD) (e : EventD) : List Bs := [itoa e.slot, e.actor ++ 64 :: itoa e.pc, r.word]
def tellR (r : RowD) (e : EventD) : Option (List Bs) := match r.flds with
  | [] => some (headW r e)
  | [f] => (tellF f e).map fun t => headW r e ++ [t]
  | [f, g] => match tellF f e, tellF g e with
    | some t, some u => some (headW r e ++ [t, r.msg, u])
    | _, _ => none
  | _ => none
/-- What a row's first words tell. -/
def readH (r : RowD) (x y : Bs) : Option EventD := match cutC 64 y with
  | none => none
  | some (a, p) => if actorL a = true then match wholeL x, wholeL p with
    | some s, some q => if 0 ≤ s ∧ 0 ≤ q then some ⟨r.kind, s, a, q, [], 0, r.tag, 0, []⟩ else none
    | _, _ => none
    else none
def readR (r : RowD) (l : List Bs) : Option EventD := match readH r (l[0]?.getD []) (l[1]?.getD []) with
  | none => none
  | some e => match r.flds with
    | [] => some e
    | [f] => readF f e (l[3]?.getD [])
    | [f, g] => (readF f e (l[3]?.getD [])).bind fun e' => readF g e' (l[5]?.getD [])
    | _ => none
def slotE (n : Int) : EventD := ⟨0, n, [], 0, [], 0, 0, 0, []⟩
def tIdle : Bs := 32 :: wIdle
def textD (e : EventD) : Option Bs :=
  if e.kind = 0 then (if e = slotE e.slot then some (itoa e.slot ++ tIdle) else none)
  else match rowsD.find? (fun r => decide (r.kind = e.kind ∧ r.tag = e.tag)) with
    | none => none
    | some r => match tellR r e with
      | none => none
      | some w => if readR r w = some e then some (joinC 32 w) else none
def sizeR (r : RowD) : Nat := 3 + r.flds.length + min r.msg.length 1
/-- What stands ahead of ' idle'. -/
def cutIdle (s : Bs) : Option Bs := if s.drop (s.length - 5) = tIdle then some (s.take (s.length - 5)) else none
def rowOf (w : List Bs) : Option RowD := rowsD.find? fun r => decide (r.word = w[2]?.getD [] ∧ sizeR r = w.length ∧ (r.msg = [] ∨ r.msg = w[4]?.getD []))
def parseD (s : Bs) : Option EventD := match cutIdle s with
  | some t => (wholeL t).map slotE
  | none => if (spC 32 s).length ≤ 2 then none else match rowOf (spC 32 s) with
    | none => none
    | some r => readR r (spC 32 s)
end
section
open Go.Lib

theorem itoa_bytes (v : Int) : ∀ x ∈ itoa v, x = 45 ∨ (48 ≤ x.toNat ∧ x.toNat ≤ 57) := by
  intro x hx
  by_cases h0 : 0 ≤ v
  · obtain ⟨n, rfl⟩ : ∃ n : Nat, v = n := ⟨v.toNat, by omega⟩
    rw [itoa_nat] at hx
    exact .inr (decDigits_digit n x hx)
  · obtain ⟨n, rfl⟩ : ∃ n : Nat, v = -(n : Int) := ⟨(-v).toNat, by omega⟩
    rw [itoa_neg n (by omega)] at hx
    rcases List.mem_cons.1 hx with h | hx
    · exact .inl h
    · exact .inr (decDigits_digit n x hx)
theorem itoa_no (v : Int) {c : UInt8} (h : c ≠ 45) (hc : c.toNat < 48 ∨ 57 < c.toNat) : ∀ x ∈ itoa v, x ≠ c := by
  intro x hx e
  subst e
  rcases itoa_bytes v x hx with hh | hh
  · exact h hh
  · omega
theorem chan_no {s : Bs} (h : chanL s = true) {c : UInt8} (h99 : c ≠ 99) (h43 : c ≠ 43) (h46 : c ≠ 46) (hc : c.toNat < 48 ∨ 57 < c.toNat) : ∀ x ∈ s, x ≠ c := by
  intro x hx e
  subst e
  rcases keyL_some h with ⟨k, hk⟩ | ⟨_, A, k, hm⟩
  · rw [(bootN_some.1 hk).1] at hx
    rcases List.mem_cons.1 hx with hx | hx
    · exact h99 hx
    · exact dec_no hc x hx rfl
  · rw [(madeN_some.1 hm).1] at hx
    rcases List.mem_append.1 hx with hx | hx
    · exact textA_no h46 hc x hx rfl
    · rcases List.mem_cons.1 hx with hx | hx
      · exact h43 hx
      · exact dec_no hc x hx rfl
theorem end_no {s : Bs} (h : (endL s).isSome = true) {c : UInt8} (h58 : c ≠ 58) (h99 : c ≠ 99) (h43 : c ≠ 43) (h46 : c ≠ 46) (hc : c.toNat < 48 ∨ 57 < c.toNat) : ∀ x ∈ s, x ≠ c := by
  intro x hx e
  subst e
  obtain ⟨⟨d, n⟩, hd⟩ := Option.isSome_iff_exists.1 h
  obtain ⟨hc', hs⟩ := endL_some.1 hd
  have h48 : (48 : UInt8).toNat = 48 := rfl
  have h49 : (49 : UInt8).toNat = 49 := rfl
  rcases hs with ⟨_, rfl⟩ | ⟨_, rfl⟩
  · rcases List.mem_append.1 hx with hx | hx
    · exact chan_no hc' h99 h43 h46 hc x hx rfl
    · simp only [List.mem_cons, List.not_mem_nil, or_false] at hx
      rcases hx with hx | hx
      · exact h58 hx
      · subst hx; omega
  · rcases List.mem_append.1 hx with hx | hx
    · exact chan_no hc' h99 h43 h46 hc x hx rfl
    · simp only [List.mem_cons, List.not_mem_nil, or_false] at hx
      rcases hx with hx | hx
      · exact h58 hx
      · subst hx; omega
theorem tellF_no {f : Fld} {e : EventD} {t : Bs} (h : tellF f e = some t) {c : UInt8} (hc5 : c ≠ 45) (h58 : c ≠ 58) (h99 : c ≠ 99) (h43 : c ≠ 43) (h46 : c ≠ 46) (hc : c.toNat < 48 ∨ 57 < c.toNat) : ∀ x ∈ t, x ≠ c := by
  cases f with
  | word => cases h; exact itoa_no _ hc5 hc
  | label =>
    simp only [tellF] at h
    split at h
    · cases h; exact itoa_no _ hc5 hc
    · cases h
  | made =>
    simp only [tellF] at h
    split at h
    · rename_i hh; cases h; exact chan_no hh.1 h99 h43 h46 hc
    · cases h
  | child =>
    simp only [tellF] at h
    split at h
    · rename_i hh; cases h; exact actorL_no hh.1 h46 hc
    · cases h
  | place =>
    simp only [tellF] at h
    split at h
    · rename_i hh; cases h; exact end_no hh h58 h99 h43 h46 hc
    · cases h
  | handed =>
    simp only [tellF] at h
    split at h
    · rename_i hh; cases h; exact end_no hh h58 h99 h43 h46 hc
    · cases h
theorem readH_some {r : RowD} {x y : Bs} {e : EventD} : readH r x y = some e → ∃ s a q, e = ⟨r.kind, s, a, q, [], 0, r.tag, 0, []⟩ ∧ x = itoa s ∧ y = a ++ 64 :: itoa q ∧ actorL a = true ∧ 0 ≤ s ∧ 0 ≤ q := by
  intro h
  unfold readH at h
  split at h
  · cases h
  · rename_i a p hc
    split at h
    · rename_i ha
      split at h
      · rename_i s q hs hq
        split at h
        · rename_i h0
          cases h
          exact ⟨s, a, q, rfl, (wholeL_some hs).symm, by rw [wholeL_some hq]; exact (cutC_some hc).1, ha, h0.1, h0.2⟩
        · cases h
      · cases h
    · cases h
theorem readH_of {r : RowD} {s q : Int} {a : Bs} (hs : Int64 s) (hq : Int64 q) (ha : actorL a = true) (h0 : 0 ≤ s) (h1 : 0 ≤ q) :
    readH r (itoa s) (a ++ 64 :: itoa q) = some ⟨r.kind, s, a, q, [], 0, r.tag, 0, []⟩ := by
  unfold readH
  rw [cutC_at (actorL_no ha (by decide) (by decide))]
  simp only
  rw [if_pos ha, wholeL_itoa hs, wholeL_itoa hq]
  simp only
  rw [if_pos ⟨h0, h1⟩]
theorem readF_some {f : Fld} {e e' : EventD} {s : Bs} (h : readF f e s = some e') : tellF f e' = some s ∧ e'.kind = e.kind ∧ e'.slot = e.slot ∧ e'.actor = e.actor ∧ e'.pc = e.pc ∧ e'.tag = e.tag := by
  cases f with
  | word =>
    obtain ⟨n, hn, rfl⟩ := Option.map_eq_some_iff.1 h
    exact ⟨by rw [tellF, wholeL_some hn], rfl, rfl, rfl, rfl, rfl⟩
  | label =>
    simp only [readF] at h
    split at h
    · rename_i n hn
      split at h
      · rename_i h8
        cases h
        exact ⟨by rw [tellF, if_pos h8, wholeL_some hn], rfl, rfl, rfl, rfl, rfl⟩
      · cases h
    · cases h
  | made =>
    simp only [readF] at h
    split at h
    · rename_i hh; cases h
      exact ⟨by rw [tellF, if_pos hh], rfl, rfl, rfl, rfl, rfl⟩
    · cases h
  | child =>
    simp only [readF] at h
    split at h
    · rename_i hh; cases h
      exact ⟨by rw [tellF, if_pos hh], rfl, rfl, rfl, rfl, rfl⟩
    · cases h
  | place =>
    simp only [readF] at h
    split at h
    · rename_i c n hc
      cases h
      refine ⟨?_, rfl, rfl, rfl, rfl, rfl⟩
      have e : c ++ 58 :: itoa (n : Int) = s := by
        rcases (endL_some.1 hc).2 with ⟨rfl, h⟩ | ⟨rfl, h⟩
        · rw [h, itoa_nat, decDigits_small (by decide)]; rfl
        · rw [h, itoa_nat, decDigits_small (by decide)]; rfl
      simp only [tellF]
      rw [e, hc]
      rfl
    · cases h
  | handed =>
    simp only [readF] at h
    split at h
    · rename_i hh; cases h
      exact ⟨by rw [tellF, if_pos hh], rfl, rfl, rfl, rfl, rfl⟩
    · cases h
/-- A message's word does not turn the place. -/
theorem readF_place {f : Fld} {e e' : EventD} {s : Bs} (hf : f = .word ∨ f = .label ∨ f = .handed) (h : readF f e s = some e') : tellF .place e' = tellF .place e := by
  rcases hf with rfl | rfl | rfl
  · obtain ⟨n, hn, rfl⟩ := Option.map_eq_some_iff.1 h
    rfl
  · simp only [readF] at h
    split at h
    · split at h
      · cases h; rfl
      · cases h
    · cases h
  · simp only [readF] at h
    split at h
    · cases h; rfl
    · cases h
/-- What the rows are. -/
theorem rows_shape : ∀ r ∈ rowsD, r.kind ≠ 0 ∧ r.word ≠ wIdle ∧ (∀ x ∈ r.word, x ≠ 32) ∧ (∀ x ∈ r.msg, x ≠ 32) ∧ rowsD.find? (fun q => decide (q.kind = r.kind ∧ q.tag = r.tag)) = some r ∧
    rowsD.find? (fun q => decide (q.word = r.word ∧ sizeR q = sizeR r ∧ (q.msg = [] ∨ q.msg = r.msg))) = some r ∧
    ((r.flds = [] ∧ r.msg = []) ∨ (∃ f, r.flds = [f] ∧ r.msg = []) ∨ (∃ g, r.flds = [.place, g] ∧ r.msg.length ≠ 0 ∧ (g = .word ∨ g = .label ∨ g = .handed))) := by
  intro r hr
  simp only [rowsD, List.mem_cons, List.not_mem_nil, or_false] at hr
  rcases hr with rfl | rfl | rfl | rfl | rfl | rfl | rfl | rfl | rfl | rfl | rfl | rfl | rfl
  · exact ⟨by decide, by decide, by decide, by decide, rfl, rfl, .inl ⟨rfl, rfl⟩⟩
  · exact ⟨by decide, by decide, by decide, by decide, rfl, rfl, .inl ⟨rfl, rfl⟩⟩
  · exact ⟨by decide, by decide, by decide, by decide, rfl, rfl, .inl ⟨rfl, rfl⟩⟩
  · exact ⟨by decide, by decide, by decide, by decide, rfl, rfl, .inr (.inl ⟨_, rfl, rfl⟩)⟩
  · exact ⟨by decide, by decide, by decide, by decide, rfl, rfl, .inr (.inl ⟨_, rfl, rfl⟩)⟩
  · exact ⟨by decide, by decide, by decide, by decide, rfl, rfl, .inr (.inl ⟨_, rfl, rfl⟩)⟩
  · exact ⟨by decide, by decide, by decide, by decide, rfl, rfl, .inr (.inl ⟨_, rfl, rfl⟩)⟩
  · exact ⟨by decide, by decide, by decide, by decide, rfl, rfl, .inr (.inr ⟨_, rfl, by decide, .inl rfl⟩)⟩
  · exact ⟨by decide, by decide, by decide, by decide, rfl, rfl, .inr (.inr ⟨_, rfl, by decide, .inr (.inl rfl)⟩)⟩
  · exact ⟨by decide, by decide, by decide, by decide, rfl, rfl, .inr (.inr ⟨_, rfl, by decide, .inr (.inr rfl)⟩)⟩
  · exact ⟨by decide, by decide, by decide, by decide, rfl, rfl, .inr (.inr ⟨_, rfl, by decide, .inl rfl⟩)⟩
  · exact ⟨by decide, by decide, by decide, by decide, rfl, rfl, .inr (.inr ⟨_, rfl, by decide, .inr (.inl rfl)⟩)⟩
  · exact ⟨by decide, by decide, by decide, by decide, rfl, rfl, .inr (.inr ⟨_, rfl, by decide, .inr (.inr rfl)⟩)⟩
/-- Words that a row reads are those that it tells. -/
theorem read_tell {r : RowD} (hr : r ∈ rowsD) {l : List Bs} {e : EventD} (h : readR r l = some e) (h2 : r.word = l[2]?.getD []) (hs : sizeR r = l.length) (hm : r.msg = [] ∨ r.msg = l[4]?.getD []) :
    tellR r e = some l ∧ e.kind = r.kind ∧ e.tag = r.tag := by
  obtain ⟨_, _, _, _, _, _, hsh⟩ := rows_shape r hr
  unfold readR at h
  split at h
  · cases h
  · rename_i e0 h0
    obtain ⟨s, a, q, rfl, hx, hy, ha, hs0, hq0⟩ := readH_some h0
    unfold sizeR at hs
    rcases hsh with ⟨hf, hm0⟩ | ⟨f, hf, hm0⟩ | ⟨g, hf, hm0, hg⟩
    · rw [hf] at h hs
      rw [hm0] at hs
      cases h
      simp only [List.length_nil, Nat.zero_min, Nat.add_zero] at hs
      match l, hs with
      | [x, y, z], _ =>
        simp only [List.getElem?_cons_zero, List.getElem?_cons_succ, Option.getD_some] at hx hy h2
        refine ⟨?_, rfl, rfl⟩
        unfold tellR headW
        rw [hf]
        simp only
        rw [hx, hy, h2]
    · rw [hf] at h hs
      rw [hm0] at hs
      simp only [List.length_nil, List.length_cons, Nat.zero_min, Nat.add_zero] at hs
      match l, hs with
      | [x, y, z, t], _ =>
        simp only [List.getElem?_cons_zero, List.getElem?_cons_succ, Option.getD_some] at hx hy h2 h
        obtain ⟨ht, e1, e2, e3, e4, e5⟩ := readF_some h
        refine ⟨?_, e1, e5⟩
        unfold tellR headW
        rw [hf]
        simp only
        rw [ht, e2, e3, e4, hx, hy, h2]
        rfl
    · rw [hf] at h hs
      have hmin : min r.msg.length 1 = 1 := by omega
      rw [hmin] at hs
      simp only [List.length_nil, List.length_cons, Nat.zero_min, Nat.add_zero] at hs
      match l, hs with
      | [x, y, z, t, m, u], _ =>
        simp only [List.getElem?_cons_zero, List.getElem?_cons_succ, Option.getD_some] at hx hy h2 h hm
        obtain ⟨e1, he1, he2⟩ := Option.bind_eq_some_iff.1 h
        obtain ⟨ht, d1, d2, d3, d4, d5⟩ := readF_some he1
        obtain ⟨hu, c1, c2, c3, c4, c5⟩ := readF_some he2
        have hp := readF_place hg he2
        refine ⟨?_, c1.trans d1, c5.trans d5⟩
        have hm' : r.msg = m := by
          rcases hm with hm | hm
          · rw [hm] at hm0; exact absurd rfl hm0
          · exact hm
        unfold tellR headW
        rw [hf]
        simp only
        rw [hp, ht, hu, c2, d2, c3, d3, c4, d4, hx, hy, h2, hm']
        rfl
theorem wholeL_idle {t : Bs} : cutIdle (t ++ tIdle) = some t := by
  unfold cutIdle
  have e : (t ++ tIdle).length - 5 = t.length := by simp [tIdle, wIdle]
  rw [e, List.drop_left' rfl, List.take_left' rfl, if_pos rfl]
theorem cutIdle_some {s t : Bs} (h : cutIdle s = some t) : s = t ++ tIdle := by
  unfold cutIdle at h
  split at h
  · rename_i hh
    cases h
    conv => lhs; rw [← List.take_append_drop (s.length - 5) s, hh]
  · cases h
/-- What is read as an event is that event's text. -/
theorem parse_back {s : Bs} {e : EventD} (h : parseD s = some e) : textD e = some s := by
  unfold parseD at h
  split at h
  · rename_i t ht
    obtain ⟨n, hn, rfl⟩ := Option.map_eq_some_iff.1 h
    unfold textD
    rw [if_pos (show (slotE n).kind = 0 from rfl), if_pos (show slotE n = slotE (slotE n).slot from rfl), cutIdle_some ht]
    show some (itoa n ++ tIdle) = _
    rw [wholeL_some hn]
  · split at h
    · cases h
    · split at h
      · cases h
      · rename_i r hr
        unfold rowOf at hr
        have hmem := List.mem_of_find?_eq_some hr
        have hc := List.find?_some hr
        have hc := of_decide_eq_true hc
        obtain ⟨ht, hk, htag⟩ := read_tell hmem h hc.1 hc.2.1 hc.2.2
        obtain ⟨hk0, _, _, _, hfind, _⟩ := rows_shape r hmem
        unfold textD
        rw [if_neg (by rw [hk]; exact hk0), hk, htag, hfind]
        simp only
        rw [ht]
        simp only
        rw [if_pos h, joinC_spC]
theorem tellR_words {r : RowD} (hr : r ∈ rowsD) {e : EventD} {w : List Bs} (h : tellR r e = some w) (ha : actorL e.actor = true) :
    (∀ v ∈ w, ∀ x ∈ v, x ≠ 32) ∧ (∃ w' u, w = w' ++ [u] ∧ w' ≠ [] ∧ u ≠ wIdle) ∧ rowOf w = some r ∧ 2 < w.length := by
  obtain ⟨_, hwI, hw32, hm32, _, hfind, hsh⟩ := rows_shape r hr
  have hh : ∀ v ∈ headW r e, ∀ x ∈ v, x ≠ 32 := by
    intro v hv
    simp only [headW, List.mem_cons, List.not_mem_nil, or_false] at hv
    rcases hv with rfl | rfl | rfl
    · exact itoa_no _ (by decide) (by decide)
    · intro x hx
      rcases List.mem_append.1 hx with hx | hx
      · exact actorL_no ha (by decide) (by decide) x hx
      · rcases List.mem_cons.1 hx with rfl | hx
        · decide
        · exact itoa_no _ (by decide) (by decide) x hx
    · exact hw32
  have hI : ∀ {f t}, tellF f e = some t → t ≠ wIdle := by
    intro f t ht e2
    have := tellF_no ht (c := 105) (by decide) (by decide) (by decide) (by decide) (by decide) (by decide) 105 (by rw [e2]; decide)
    exact this rfl
  have h32 : ∀ {f t}, tellF f e = some t → ∀ x ∈ t, x ≠ 32 := fun ht => tellF_no ht (by decide) (by decide) (by decide) (by decide) (by decide) (by decide)
  rcases hsh with ⟨hf, hm0⟩ | ⟨f, hf, hm0⟩ | ⟨g, hf, hm0, hg⟩
  · unfold tellR at h
    rw [hf] at h
    cases h
    refine ⟨hh, ⟨[itoa e.slot, e.actor ++ 64 :: itoa e.pc], r.word, rfl, by simp, hwI⟩, ?_, by simp [headW]⟩
    unfold rowOf
    rw [show (headW r e).length = sizeR r by simp [headW, sizeR, hf, hm0], show (headW r e)[2]?.getD [] = r.word from rfl, show (headW r e)[4]?.getD [] = r.msg by rw [hm0]; rfl]
    exact hfind
  · unfold tellR at h
    rw [hf] at h
    obtain ⟨t, ht, rfl⟩ := Option.map_eq_some_iff.1 h
    refine ⟨?_, ⟨headW r e, t, rfl, by simp [headW], hI ht⟩, ?_, by simp [headW]⟩
    · intro v hv
      rcases List.mem_append.1 hv with hv | hv
      · exact hh v hv
      · rw [List.mem_singleton] at hv; subst hv; exact h32 ht
    · unfold rowOf
      rw [show (headW r e ++ [t]).length = sizeR r by simp [headW, sizeR, hf, hm0], show (headW r e ++ [t])[2]?.getD [] = r.word from rfl, show (headW r e ++ [t])[4]?.getD [] = r.msg by rw [hm0]; rfl]
      exact hfind
  · unfold tellR at h
    rw [hf] at h
    simp only at h
    split at h
    · rename_i t u ht hu
      cases h
      refine ⟨?_, ⟨headW r e ++ [t, r.msg], u, by simp, by simp, hI hu⟩, ?_, by simp [headW]⟩
      · intro v hv
        rcases List.mem_append.1 hv with hv | hv
        · exact hh v hv
        · simp only [List.mem_cons, List.not_mem_nil, or_false] at hv
          rcases hv with rfl | rfl | rfl
          · exact h32 ht
          · exact hm32
          · exact h32 hu
      · unfold rowOf
        have hmin : min r.msg.length 1 = 1 := by omega
        rw [show (headW r e ++ [t, r.msg, u]).length = sizeR r by simp [headW, sizeR, hf, hmin], show (headW r e ++ [t, r.msg, u])[2]?.getD [] = r.word from rfl, show (headW r e ++ [t, r.msg, u])[4]?.getD [] = r.msg from rfl]
        exact hfind
    · cases h
theorem readR_actor {r : RowD} (hr : r ∈ rowsD) {w : List Bs} {e : EventD} (h : readR r w = some e) : actorL e.actor = true ∧ 0 ≤ e.slot ∧ 0 ≤ e.pc := by
  obtain ⟨_, _, _, _, _, _, hsh⟩ := rows_shape r hr
  unfold readR at h
  split at h
  · cases h
  · rename_i e0 h0
    obtain ⟨s, a, q, rfl, hx, hy, ha, hs0, hq0⟩ := readH_some h0
    rcases hsh with ⟨hf, _⟩ | ⟨f, hf, _⟩ | ⟨g, hf, _, hg⟩
    · rw [hf] at h; cases h; exact ⟨ha, hs0, hq0⟩
    · rw [hf] at h
      obtain ⟨_, _, d2, d3, d4, _⟩ := readF_some h
      rw [d2, d3, d4]; exact ⟨ha, hs0, hq0⟩
    · rw [hf] at h
      obtain ⟨e1, he1, he2⟩ := Option.bind_eq_some_iff.1 h
      obtain ⟨_, _, d2, d3, d4, _⟩ := readF_some he1
      obtain ⟨_, _, c2, c3, c4, _⟩ := readF_some he2
      rw [c2, c3, c4, d2, d3, d4]; exact ⟨ha, hs0, hq0⟩
/-- Text and words of an event that is not idle. -/
theorem text_words {e : EventD} {s : Bs} (h : textD e = some s) (hk : e.kind ≠ 0) : ∃ r w, r ∈ rowsD ∧ r.kind = e.kind ∧ r.tag = e.tag ∧ tellR r e = some w ∧ readR r w = some e ∧ s = joinC 32 w ∧ spC 32 s = w ∧ rowOf w = some r ∧ cutIdle s = none ∧ 2 < w.length := by
  unfold textD at h
  rw [if_neg hk] at h
  split at h
  · cases h
  · rename_i r hr
    split at h
    · cases h
    · rename_i w hw
      split at h
      · rename_i hrd
        cases h
        have hmem := List.mem_of_find?_eq_some hr
        have hc := List.find?_some hr
        have hc := of_decide_eq_true hc
        obtain ⟨ha, _, _⟩ := readR_actor hmem hrd
        obtain ⟨h32, ⟨w', u, hwu, hw', hu⟩, hrow, hlen⟩ := tellR_words hmem hw ha
        refine ⟨r, w, hmem, hc.1, hc.2, hw, hrd, rfl, spC_joinC 32 w (by rintro rfl; simp at hlen) h32, hrow, ?_, hlen⟩
        cases hci : cutIdle (joinC 32 w) with
        | none => rfl
        | some t =>
          exfalso
          have h1 := cutIdle_some hci
          have h2 : lastC 32 (joinC 32 w) = some (t, wIdle) := lastC_some.2 ⟨h1, by decide⟩
          have h3 : lastC 32 (joinC 32 w) = some (joinC 32 w', u) := by
            rw [hwu, joinC_concat 32 w' u hw']
            exact lastC_some.2 ⟨rfl, h32 u (by rw [hwu]; simp)⟩
          rw [h2] at h3
          cases h3
          exact hu rfl
      · cases h
/-- An event comes back from its text. -/
theorem text_back {e : EventD} {s : Bs} (hi : Int64 e.slot) (h : textD e = some s) : parseD s = some e := by
  by_cases hk : e.kind = 0
  · unfold textD at h
    rw [if_pos hk] at h
    split at h
    · rename_i he
      cases h
      unfold parseD
      rw [wholeL_idle]
      simp only
      rw [wholeL_itoa hi, Option.map_some, ← he]
    · cases h
  · obtain ⟨r, w, _, _, _, _, hrd, _, hsp, hrow, hci, hlen⟩ := text_words h hk
    unfold parseD
    rw [hci]
    simp only
    rw [hsp, if_neg (by omega), hrow]
    exact hrd
end
section
open Go.Lib

/-- The document's reading of digits. -/
def valGo : Nat → Bs → Option Nat
  | acc, [] => some acc
  | acc, c :: r => if 48 ≤ c.toNat ∧ c.toNat ≤ 57 then valGo (10 * acc + (c.toNat - 48)) r else none
def refNum (l : Bs) : Option Nat := if l.length < 1 ∨ 9 < l.length ∨ (l.head? = some 48 ∧ 1 < l.length) then none else valGo 0 l
theorem headq : ∀ (a b : Bs), a ≠ [] → (a ++ b).head? = a.head?
  | [], _, h => absurd rfl h
  | _ :: _, _, _ => rfl
theorem valGo_append : ∀ (a b : Bs) (acc : Nat), valGo acc (a ++ b) = (valGo acc a).bind fun u => valGo u b
  | [], b, acc => rfl
  | c :: r, b, acc => by
    simp only [List.cons_append, valGo]
    split
    · exact valGo_append r b _
    · rfl
theorem valGo_dec (n : Nat) : valGo 0 (decDigits n) = some n := by
  induction n using Nat.strongRecOn with
  | _ n ih =>
    by_cases h : n < 10
    · rw [decDigits_small h]
      simp only [valGo, digit_toNat h]
      rw [if_pos (by omega)]
      congr 1
      omega
    · rw [decDigits_big h, valGo_append, ih (n / 10) (by omega)]
      simp only [Option.bind_some, valGo, digit_toNat (show n % 10 < 10 by omega)]
      rw [if_pos (by omega)]
      congr 1
      omega
theorem decDigits_pos_head (n : Nat) (h : 0 < n) : (decDigits n).head? ≠ some 48 := by
  induction n using Nat.strongRecOn with
  | _ n ih =>
    by_cases hs : n < 10
    · rw [decDigits_small hs]
      simp only [List.head?_cons, ne_eq, Option.some.injEq]
      intro e
      have := digit_toNat hs
      rw [e] at this
      have h48 : (48 : UInt8).toNat = 48 := rfl
      omega
    · rw [decDigits_big hs]
      have hne := decDigits_ne (n / 10)
      rw [headq _ _ hne]
      exact ih (n / 10) (by omega) (by omega)
theorem dec_val : ∀ (k : Nat) (l : Bs) (n : Nat), l.length = k → l ≠ [] → ¬ (l.head? = some 48 ∧ 1 < l.length) → valGo 0 l = some n → decDigits n = l
  | 0, l, n, hk, hne, _, _ => absurd (List.length_eq_zero_iff.1 hk) hne
  | k + 1, l, n, hk, hne, h0, hv => by
    obtain ⟨r, c, rfl⟩ : ∃ r c, l = r ++ [c] := ⟨l.dropLast, l.getLast hne, (List.dropLast_concat_getLast hne).symm⟩
    rw [valGo_append] at hv
    cases hm : valGo 0 r with
    | none => rw [hm] at hv; cases hv
    | some m =>
      rw [hm] at hv
      simp only [Option.bind_some, valGo] at hv
      split at hv
      · rename_i hd
        simp only [Option.some.injEq] at hv
        have hc : ∀ j, j = c.toNat - 48 → UInt8.ofNat (48 + j) = c := by
          rintro j rfl
          apply UInt8.toNat_inj.1
          rw [UInt8.toNat_ofNat']; omega
        by_cases hr : r = []
        · subst hr
          simp only [valGo, Option.some.injEq] at hm
          subst hm
          rw [decDigits_small (by omega), hc n (by omega)]
          rfl
        · have hh : (r ++ [c]).head? = r.head? := headq _ _ hr
          have hlen : 1 < (r ++ [c]).length := by
            have := List.length_pos_iff.2 hr
            simp; omega
          have h1 : r.head? ≠ some 48 := by
            intro e
            exact h0 ⟨hh.trans e, hlen⟩
          have ih := dec_val k r m (by simp at hk; omega) hr (fun h => h1 h.1) hm
          have hm0 : 0 < m := by
            apply Nat.pos_of_ne_zero
            rintro rfl
            rw [decDigits_small (by omega)] at ih
            rw [← ih] at h1
            exact h1 rfl
          rw [decDigits_big (by omega), show n / 10 = m by omega, ih, hc (n % 10) (by omega)]
      · cases hv
theorem refNum_numL (l : Bs) : refNum l = numL l := by
  apply Option.ext
  intro n
  rw [numL_some]
  unfold refNum
  constructor
  · intro h
    split at h
    · cases h
    · rename_i hc
      have hne : l ≠ [] := by rintro rfl; exact hc (.inl (by simp))
      have hd := dec_val _ l n rfl hne (fun h => hc (.inr (.inr h))) h
      refine ⟨hd.symm, nDigits_le9 ?_⟩
      rw [← decDigits_length, hd]
      omega
  · rintro ⟨rfl, hn⟩
    rw [if_neg, valGo_dec]
    have h1 := nDigits_pos n
    have h2 := nDigits_of_lt hn
    rw [← decDigits_length] at h1 h2
    rintro (h | h | ⟨h, h3⟩)
    · omega
    · omega
    · by_cases h0 : 0 < n
      · exact decDigits_pos_head n h0 h
      · obtain rfl : n = 0 := by omega
        rw [decDigits_small (by omega)] at h3
        simp at h3
end
section
open Go.Lib

theorem decDigits_inj' {n m : Nat} (h : decDigits n = decDigits m) : n = m := by
  have h1 := valGo_dec n
  rw [h, valGo_dec m] at h1
  exact (Option.some.inj h1).symm
theorem itoa_inj {a b : Int} (h : itoa a = itoa b) : a = b := by
  by_cases ha : 0 ≤ a
  · obtain ⟨n, rfl⟩ : ∃ n : Nat, a = n := ⟨a.toNat, by omega⟩
    by_cases hb : 0 ≤ b
    · obtain ⟨m, rfl⟩ : ∃ m : Nat, b = m := ⟨b.toNat, by omega⟩
      rw [itoa_nat, itoa_nat] at h
      rw [decDigits_inj' h]
    · obtain ⟨m, rfl⟩ : ∃ m : Nat, b = -(m : Int) := ⟨(-b).toNat, by omega⟩
      rw [itoa_nat, itoa_neg m (by omega)] at h
      have := decDigits_digit n 45 (by rw [h]; simp)
      have e1 : (45 : UInt8).toNat = 45 := rfl
      omega
  · obtain ⟨n, rfl⟩ : ∃ n : Nat, a = -(n : Int) := ⟨(-a).toNat, by omega⟩
    by_cases hb : 0 ≤ b
    · obtain ⟨m, rfl⟩ : ∃ m : Nat, b = m := ⟨b.toNat, by omega⟩
      rw [itoa_nat, itoa_neg n (by omega)] at h
      have := decDigits_digit m 45 (by rw [← h]; simp)
      have e1 : (45 : UInt8).toNat = 45 := rfl
      omega
    · obtain ⟨m, rfl⟩ : ∃ m : Nat, b = -(m : Int) := ⟨(-b).toNat, by omega⟩
      rw [itoa_neg n (by omega), itoa_neg m (by omega)] at h
      simp only [List.cons.injEq, true_and] at h
      rw [decDigits_inj' h]
theorem itoa0 : itoa 0 = [48] := by
  have := itoa_nat 0
  rw [decDigits_small (by decide)] at this
  exact this
theorem itoa1 : itoa 1 = [49] := by
  have := itoa_nat 1
  rw [decDigits_small (by decide)] at this
  exact this
/-- A place: a channel and a side. -/
theorem place_some {c d : Bs} {i : Int} {n : Nat} (h : endL (c ++ 58 :: itoa i) = some (d, n)) : chanL c = true ∧ d = c ∧ i = n ∧ (n = 0 ∨ n = 1) := by
  obtain ⟨hc, hs⟩ := endL_some.1 h
  have h1 : lastC 58 (c ++ 58 :: itoa i) = some (c, itoa i) := lastC_some.2 ⟨rfl, itoa_no _ (by decide) (by decide)⟩
  rcases hs with ⟨hn, hs⟩ | ⟨hn, hs⟩
  · have h2 : lastC 58 (c ++ 58 :: itoa i) = some (d, [48]) := lastC_some.2 ⟨hs, by decide⟩
    rw [h1] at h2
    simp only [Option.some.injEq, Prod.mk.injEq] at h2
    rw [← itoa0] at h2
    obtain ⟨rfl, h3⟩ := h2
    have := itoa_inj h3
    subst hn
    exact ⟨hc, rfl, by omega, .inl rfl⟩
  · have h2 : lastC 58 (c ++ 58 :: itoa i) = some (d, [49]) := lastC_some.2 ⟨hs, by decide⟩
    rw [h1] at h2
    simp only [Option.some.injEq, Prod.mk.injEq] at h2
    rw [← itoa1] at h2
    obtain ⟨rfl, h3⟩ := h2
    have := itoa_inj h3
    subst hn
    exact ⟨hc, rfl, by omega, .inr rfl⟩
theorem place_of {c : Bs} {i : Int} (hc : chanL c = true) (hi : i = 0 ∨ i = 1) : endL (c ++ 58 :: itoa i) = some (c, i.toNat) := by
  rcases hi with rfl | rfl
  · rw [itoa0]; exact endL_some.2 ⟨hc, .inl ⟨rfl, rfl⟩⟩
  · rw [itoa1]; exact endL_some.2 ⟨hc, .inr ⟨rfl, rfl⟩⟩
theorem place_iff {c : Bs} {i : Int} : (endL (c ++ 58 :: itoa i)).isSome = decide (chanL c = true ∧ (i = 0 ∨ i = 1)) := by
  by_cases h : chanL c = true ∧ (i = 0 ∨ i = 1)
  · rw [place_of h.1 h.2, decide_eq_true h]; rfl
  · rw [decide_eq_false h]
    cases he : endL (c ++ 58 :: itoa i) with
    | none => rfl
    | some p =>
      exfalso
      obtain ⟨h1, _, h3, h4⟩ := place_some (d := p.1) (n := p.2) he
      exact h ⟨h1, by omega⟩
def setF : Fld → EventD → EventD → EventD
  | .word, e0, e => { e0 with word := e.word }
  | .label, e0, e => { e0 with word := e.word }
  | .made, e0, e => { e0 with chan := e.chan }
  | .child, e0, e => { e0 with name := e.name }
  | .place, e0, e => { e0 with chan := e.chan, side := e.side }
  | .handed, e0, e => { e0 with name := e.name }
theorem tell_read {f : Fld} {e e0 : EventD} {t : Bs} (hi : Int64 e.word) (ha : e0.actor = e.actor) (h : tellF f e = some t) : readF f e0 t = some (setF f e0 e) := by
  cases f with
  | word => cases h; simp only [readF, wholeL_itoa hi]; rfl
  | label =>
    simp only [tellF] at h
    split at h
    · rename_i h8; cases h
      simp only [readF, wholeL_itoa hi]
      rw [if_pos h8]; rfl
    · cases h
  | made =>
    simp only [tellF] at h
    split at h
    · rename_i hh; cases h
      simp only [readF]
      rw [if_pos (by rw [ha]; exact hh)]; rfl
    · cases h
  | child =>
    simp only [tellF] at h
    split at h
    · rename_i hh; cases h
      simp only [readF]
      rw [if_pos (by rw [ha]; exact hh)]; rfl
    · cases h
  | place =>
    simp only [tellF] at h
    split at h
    · rename_i hh; cases h
      obtain ⟨⟨d, n⟩, hd⟩ := Option.isSome_iff_exists.1 hh
      obtain ⟨_, rfl, h3, _⟩ := place_some hd
      simp only [readF, hd, setF]
      rw [h3]
    · cases h
  | handed =>
    simp only [tellF] at h
    split at h
    · rename_i hh; cases h
      simp only [readF]
      rw [if_pos hh]; rfl
    · cases h
def whoD (e : EventD) : Bool := decide (actorL e.actor = true ∧ 0 ≤ e.slot ∧ 0 ≤ e.pc)
def headE (r : RowD) (e : EventD) : EventD := ⟨r.kind, e.slot, e.actor, e.pc, [], 0, r.tag, 0, []⟩
def setR (r : RowD) (e : EventD) : EventD := match r.flds with
  | [] => headE r e
  | [f] => setF f (headE r e) e
  | [f, g] => setF g (setF f (headE r e) e) e
  | _ => headE r e
structure IntsD (e : EventD) : Prop where
  slot : Int64 e.slot
  pc : Int64 e.pc
  word : Int64 e.word
theorem setF_actor (f : Fld) (e0 e : EventD) : (setF f e0 e).actor = e0.actor := by cases f <;> rfl
theorem tellR_read {r : RowD} (hr : r ∈ rowsD) {e : EventD} (hi : IntsD e) (hw : whoD e = true) {w : List Bs} (h : tellR r e = some w) : readR r w = some (setR r e) := by
  have hw := of_decide_eq_true hw
  obtain ⟨_, _, _, _, _, _, hsh⟩ := rows_shape r hr
  have hh : readH r (itoa e.slot) (e.actor ++ 64 :: itoa e.pc) = some (headE r e) := readH_of hi.slot hi.pc hw.1 hw.2.1 hw.2.2
  rcases hsh with ⟨hf, hm0⟩ | ⟨f, hf, hm0⟩ | ⟨g, hf, hm0, hg⟩
  · unfold tellR at h
    rw [hf] at h
    cases h
    unfold readR headW setR
    simp only [List.getElem?_cons_zero, List.getElem?_cons_succ, Option.getD_some]
    rw [hh, hf]
  · unfold tellR at h
    rw [hf] at h
    obtain ⟨t, ht, rfl⟩ := Option.map_eq_some_iff.1 h
    unfold readR headW setR
    simp only [List.cons_append, List.nil_append, List.getElem?_cons_zero, List.getElem?_cons_succ, Option.getD_some]
    rw [hh, hf]
    exact tell_read hi.word rfl ht
  · unfold tellR at h
    rw [hf] at h
    simp only at h
    split at h
    · rename_i t u ht hu
      cases h
      unfold readR headW setR
      simp only [List.cons_append, List.nil_append, List.getElem?_cons_zero, List.getElem?_cons_succ, Option.getD_some]
      rw [hh, hf]
      simp only
      rw [tell_read (e0 := headE r e) hi.word rfl ht, Option.bind_some]
      exact tell_read hi.word (setF_actor _ _ _) hu
    · cases h
/-- The text of an event by its row. -/
theorem textD_row {r : RowD} (hr : r ∈ rowsD) {e : EventD} (hk : e.kind = r.kind) (ht : e.tag = r.tag) (hi : IntsD e) :
    textD e = if whoD e = true ∧ setR r e = e then (tellR r e).map (joinC 32) else none := by
  obtain ⟨hk0, _, _, _, hfind, _⟩ := rows_shape r hr
  unfold textD
  rw [if_neg (by rw [hk]; exact hk0), hk, ht, hfind]
  simp only
  by_cases hw : whoD e = true
  · cases h : tellR r e with
    | none => simp
    | some w =>
      simp only [Option.map_some]
      rw [tellR_read hr hi hw h]
      by_cases hs : setR r e = e
      · rw [if_pos (show some (setR r e) = some e by rw [hs])]
        exact (if_pos ⟨hw, hs⟩).symm
      · rw [if_neg (show ¬ some (setR r e) = some e from fun h => hs (Option.some.inj h))]
        exact (if_neg (fun h => hs h.2)).symm
  · rw [if_neg (fun h => hw h.1)]
    cases h : tellR r e with
    | none => rfl
    | some w =>
      simp only
      rw [if_neg]
      intro hrd
      exact hw (decide_eq_true (readR_actor hr hrd))
theorem textD_none {e : EventD} (hk : e.kind ≠ 0) (h : ∀ r ∈ rowsD, ¬ (r.kind = e.kind ∧ r.tag = e.tag)) : textD e = none := by
  unfold textD
  rw [if_neg hk, List.find?_eq_none.2]
  intro r hr
  simpa using h r hr

/-! The document's text. -/
def headT (e : EventD) : Bs := itoa e.slot ++ 32 :: (e.actor ++ 64 :: itoa e.pc)
def sideB (i : Int) : UInt8 := UInt8.ofNat ((48 + i % 256).toNat)
def endT (e : EventD) : Bs := e.chan ++ [58, sideB e.side]
def msgT (e : EventD) : Bs × Bool :=
  if e.tag = 0 then (wWord ++ 32 :: itoa e.word, true)
  else if e.tag = 1 then (wLabel ++ 32 :: itoa e.word, decide (0 ≤ e.word ∧ e.word < 8))
  else if e.tag = 2 then (wEnd ++ 32 :: e.name, (endL e.name).isSome)
  else ([], false)
def told0 (e : EventD) : EventD := ⟨e.kind, e.slot, e.actor, e.pc, [], 0, 0, 0, []⟩
def told1 (e : EventD) : EventD := ⟨e.kind, e.slot, e.actor, e.pc, e.chan, e.side, 0, 0, []⟩
def told2 (e : EventD) : EventD := if e.tag = 2 then ⟨e.kind, e.slot, e.actor, e.pc, e.chan, e.side, e.tag, 0, e.name⟩ else ⟨e.kind, e.slot, e.actor, e.pc, e.chan, e.side, e.tag, e.word, []⟩
def placeD (e : EventD) : Bool := decide (chanL e.chan = true ∧ (e.side = 0 ∨ e.side = 1))
def refT (e : EventD) : Bs × EventD × Bool :=
  if e.kind = 0 then (itoa e.slot ++ tIdle, slotE e.slot, true)
  else if e.kind = 1 then (headT e ++ 32 :: wSilent, told0 e, whoD e)
  else if e.kind = 8 then (headT e ++ 32 :: wHalted, told0 e, whoD e)
  else if e.kind = 9 then (headT e ++ 32 :: wTrap, told0 e, whoD e)
  else if e.kind = 4 then (headT e ++ 32 :: (wOut ++ 32 :: itoa e.word), { told0 e with word := e.word }, whoD e)
  else if e.kind = 5 then (headT e ++ 32 :: (wMade ++ 32 :: e.chan), { told0 e with chan := e.chan }, whoD e && decide (chanL e.chan = true ∧ parentL e.chan = e.actor))
  else if e.kind = 6 then (headT e ++ 32 :: (wSpawned ++ 32 :: e.name), { told0 e with name := e.name }, whoD e && decide (actorL e.name = true ∧ parentL e.name = e.actor))
  else if e.kind = 7 then (headT e ++ 32 :: (wClosed ++ 32 :: endT e), told1 e, whoD e && placeD e)
  else if e.kind = 2 then (headT e ++ 32 :: (wSent ++ 32 :: (endT e ++ 32 :: (msgT e).1)), told2 e, whoD e && placeD e && (msgT e).2)
  else if e.kind = 3 then (headT e ++ 32 :: (wGot ++ 32 :: (endT e ++ 32 :: (msgT e).1)), told2 e, whoD e && placeD e && (msgT e).2)
  else ([], told1 e, false)
theorem endT_eq {e : EventD} (h : e.side = 0 ∨ e.side = 1) : endT e = e.chan ++ 58 :: itoa e.side := by
  unfold endT sideB
  rcases h with h | h
  · rw [h, itoa0]; rfl
  · rw [h, itoa1]; rfl
theorem headT_app (e : EventD) (x : Bs) : headT e ++ x = itoa e.slot ++ 32 :: (e.actor ++ 64 :: itoa e.pc ++ x) := by
  unfold headT; simp
/-- The answer of a triple. -/
def ansT (x : Bs × EventD × Bool) (e : EventD) : Option Bs := if x.2.2 = true ∧ x.2.1 = e then some x.1 else none
theorem ansT_not {s : Bs} {d e : EventD} {b : Bool} (h : d ≠ e) : ansT (s, d, b) e = none := by
  unfold ansT; exact if_neg (fun hh => h hh.2)
section
variable {e : EventD} (hi : IntsD e)
include hi
theorem ref_row0 {r : RowD} (hr : r ∈ rowsD) (hf : r.flds = []) (hk : e.kind = r.kind) (h0 : r.tag = 0) : textD e = ansT (headT e ++ 32 :: r.word, told0 e, whoD e) e := by
  by_cases ht : e.tag = 0
  · rw [textD_row hr hk (by rw [h0]; exact ht) hi]
    have hs : setR r e = told0 e := by unfold setR; rw [hf]; unfold headE told0; rw [hk, h0]
    have hte : tellR r e = some (headW r e) := by unfold tellR; rw [hf]
    rw [hs, hte, ansT, headT_app]
    rfl
  · rw [ansT_not (by intro h; rw [← h] at ht; exact ht rfl)]
    refine textD_none (by rw [hk]; exact (rows_shape r hr).1) ?_
    intro q hq ⟨h1, h2⟩
    have : ∀ q ∈ rowsD, ∀ r ∈ rowsD, r.flds = [] → q.kind = r.kind → q.tag = 0 := by decide
    exact ht (by rw [← h2]; exact this q hq r hr hf (by rw [h1, hk]))
theorem ref_row1 {r : RowD} (hr : r ∈ rowsD) {f : Fld} (hf : r.flds = [f]) (hk : e.kind = r.kind) (h0 : r.tag = 0) {t : Bs} {b : Bool} (ht' : tellF f e = if b = true then some t else none) (hn : (setF f (told0 e) e).tag = 0) :
    textD e = ansT (headT e ++ 32 :: (r.word ++ 32 :: t), setF f (told0 e) e, whoD e && b) e := by
  by_cases ht : e.tag = 0
  · rw [textD_row hr hk (by rw [h0]; exact ht) hi]
    have hs : setR r e = setF f (told0 e) e := by unfold setR; rw [hf]; unfold headE told0; rw [hk, h0]
    have hte : tellR r e = if b = true then some (headW r e ++ [t]) else none := by
      unfold tellR; rw [hf]; simp only; rw [ht']; cases b <;> rfl
    rw [hs, hte, ansT]
    cases b with
    | false => simp
    | true =>
      simp only [Bool.and_true, if_true, Option.map_some]
      rw [headT_app]
      rfl
  · rw [ansT_not (by intro h; rw [h] at hn; exact ht hn)]
    refine textD_none (by rw [hk]; exact (rows_shape r hr).1) ?_
    intro q hq ⟨h1, h2⟩
    have : ∀ q ∈ rowsD, ∀ r ∈ rowsD, r.flds.length = 1 → q.kind = r.kind → q.tag = 0 := by decide
    exact ht (by rw [← h2]; exact this q hq r hr (by rw [hf]; rfl) (by rw [h1, hk]))
theorem ref_row2 {r : RowD} (hr : r ∈ rowsD) {g : Fld} (hf : r.flds = [.place, g]) (hk : e.kind = r.kind) (h0 : e.tag = r.tag) {u : Bs} {b : Bool} (hu' : tellF g e = if b = true then some u else none) (hs : setF g (told1 e) e = { (if e.tag = 2 then (⟨e.kind, e.slot, e.actor, e.pc, e.chan, e.side, 0, 0, e.name⟩ : EventD) else ⟨e.kind, e.slot, e.actor, e.pc, e.chan, e.side, 0, e.word, []⟩) with tag := 0 }) :
    textD e = ansT (headT e ++ 32 :: (r.word ++ 32 :: (endT e ++ 32 :: (r.msg ++ 32 :: u))), told2 e, whoD e && placeD e && b) e := by
  rw [textD_row hr hk h0 hi]
  have hs2 : setR r e = told2 e := by
    unfold setR
    rw [hf]
    simp only
    have : ∀ x : EventD, setF g { x with tag := e.tag } e = { setF g x e with tag := e.tag } := by intro x; cases g <;> rfl
    have h3 : setF .place (headE r e) e = { told1 e with tag := e.tag } := by unfold headE told1; simp only [setF]; rw [hk, h0]
    rw [h3, this, hs]
    unfold told2
    split
    · rfl
    · rfl
  have hpl : tellF .place e = if placeD e = true then some (e.chan ++ 58 :: itoa e.side) else none := by
    unfold placeD
    simp only [tellF]
    rw [place_iff]
  have hte : tellR r e = if (placeD e && b) = true then some (headW r e ++ [e.chan ++ 58 :: itoa e.side, r.msg, u]) else none := by
    unfold tellR; rw [hf]; simp only; rw [hpl, hu']
    cases placeD e <;> cases b <;> rfl
  rw [hs2, hte, ansT]
  cases hp : placeD e with
  | false => simp
  | true =>
    have hp' := of_decide_eq_true hp
    cases b with
    | false => simp
    | true =>
      simp only [Bool.and_true, if_true, Option.map_some]
      rw [headT_app, endT_eq hp'.2]
      rfl
theorem ref_text : textD e = ansT (refT e) e := by
  unfold refT
  by_cases h0 : e.kind = 0
  · rw [if_pos h0]
    unfold textD ansT
    rw [if_pos h0]
    simp only [true_and]
    by_cases h : e = slotE e.slot
    · rw [if_pos h, if_pos h.symm]
    · rw [if_neg h, if_neg (fun hh => h hh.symm)]
  rw [if_neg h0]
  by_cases h1 : e.kind = 1
  · rw [if_pos h1]
    exact ref_row0 hi (r := ⟨1, 0, wSilent, [], []⟩) (by decide) rfl h1 rfl
  rw [if_neg h1]
  by_cases h8 : e.kind = 8
  · rw [if_pos h8]
    exact ref_row0 hi (r := ⟨8, 0, wHalted, [], []⟩) (by decide) rfl h8 rfl
  rw [if_neg h8]
  by_cases h9 : e.kind = 9
  · rw [if_pos h9]
    exact ref_row0 hi (r := ⟨9, 0, wTrap, [], []⟩) (by decide) rfl h9 rfl
  rw [if_neg h9]
  by_cases h4 : e.kind = 4
  · rw [if_pos h4]
    have := ref_row1 hi (r := ⟨4, 0, wOut, [], [.word]⟩) (by decide) rfl h4 rfl (t := itoa e.word) (b := true) rfl rfl
    rw [Bool.and_true] at this
    exact this
  rw [if_neg h4]
  by_cases h5 : e.kind = 5
  · rw [if_pos h5]
    exact ref_row1 hi (r := ⟨5, 0, wMade, [], [.made]⟩) (by decide) rfl h5 rfl (t := e.chan) (b := decide (chanL e.chan = true ∧ parentL e.chan = e.actor)) (by simp only [tellF, decide_eq_true_eq]) rfl
  rw [if_neg h5]
  by_cases h6 : e.kind = 6
  · rw [if_pos h6]
    exact ref_row1 hi (r := ⟨6, 0, wSpawned, [], [.child]⟩) (by decide) rfl h6 rfl (t := e.name) (b := decide (actorL e.name = true ∧ parentL e.name = e.actor)) (by simp only [tellF, decide_eq_true_eq]) rfl
  rw [if_neg h6]
  by_cases h7 : e.kind = 7
  · rw [if_pos h7]
    have := ref_row1 hi (r := ⟨7, 0, wClosed, [], [.place]⟩) (by decide) rfl h7 rfl (t := e.chan ++ 58 :: itoa e.side) (b := placeD e) (by simp only [tellF]; rw [place_iff]; rfl) rfl
    rw [this]
    have e1 : setF .place (told0 e) e = told1 e := rfl
    rw [e1]
    cases hp : placeD e with
    | false => unfold ansT; simp
    | true => rw [endT_eq (of_decide_eq_true hp).2]
  rw [if_neg h7]
  have hno : ∀ k, e.kind = k → (k = 2 ∨ k = 3) → e.tag ≠ 0 → e.tag ≠ 1 → e.tag ≠ 2 → textD e = none := by
    intro k hk hk2 t0 t1 t2
    refine textD_none h0 ?_
    intro q hq ⟨q1, q2⟩
    have : ∀ q ∈ rowsD, q.tag = 0 ∨ q.tag = 1 ∨ q.tag = 2 := by decide
    have := this q hq
    omega
  have hno2 : ∀ k, e.kind = k → (k = 2 ∨ k = 3) → e.tag ≠ 0 → e.tag ≠ 1 → e.tag ≠ 2 → ∀ s d b, textD e = ansT (s, d, b && (msgT e).2) e := by
    intro k hk hk2 t0 t1 t2 s d b
    rw [hno k hk hk2 t0 t1 t2]
    unfold msgT
    rw [if_neg t0, if_neg t1, if_neg t2]
    unfold ansT
    simp
  by_cases h2 : e.kind = 2
  · rw [if_pos h2]
    by_cases t0 : e.tag = 0
    · have := ref_row2 hi (r := ⟨2, 0, wSent, wWord, [.place, .word]⟩) (by decide) rfl h2 t0 (u := itoa e.word) (b := true) rfl (by rw [if_neg (by omega)]; rfl)
      rw [this]; unfold msgT; rw [if_pos t0]
    · by_cases t1 : e.tag = 1
      · have := ref_row2 hi (r := ⟨2, 1, wSent, wLabel, [.place, .label]⟩) (by decide) rfl h2 t1 (u := itoa e.word) (b := decide (0 ≤ e.word ∧ e.word < 8)) (by simp only [tellF, decide_eq_true_eq]) (by rw [if_neg (by omega)]; rfl)
        rw [this]; unfold msgT; rw [if_neg t0, if_pos t1]
      · by_cases t2 : e.tag = 2
        · have := ref_row2 hi (r := ⟨2, 2, wSent, wEnd, [.place, .handed]⟩) (by decide) rfl h2 t2 (u := e.name) (b := (endL e.name).isSome) rfl (by rw [if_pos t2]; rfl)
          rw [this]; unfold msgT; rw [if_neg t0, if_neg t1, if_pos t2]
        · exact hno2 2 h2 (.inl rfl) t0 t1 t2 _ _ _
  rw [if_neg h2]
  by_cases h3 : e.kind = 3
  · rw [if_pos h3]
    by_cases t0 : e.tag = 0
    · have := ref_row2 hi (r := ⟨3, 0, wGot, wWord, [.place, .word]⟩) (by decide) rfl h3 t0 (u := itoa e.word) (b := true) rfl (by rw [if_neg (by omega)]; rfl)
      rw [this]; unfold msgT; rw [if_pos t0]
    · by_cases t1 : e.tag = 1
      · have := ref_row2 hi (r := ⟨3, 1, wGot, wLabel, [.place, .label]⟩) (by decide) rfl h3 t1 (u := itoa e.word) (b := decide (0 ≤ e.word ∧ e.word < 8)) (by simp only [tellF, decide_eq_true_eq]) (by rw [if_neg (by omega)]; rfl)
        rw [this]; unfold msgT; rw [if_neg t0, if_pos t1]
      · by_cases t2 : e.tag = 2
        · have := ref_row2 hi (r := ⟨3, 2, wGot, wEnd, [.place, .handed]⟩) (by decide) rfl h3 t2 (u := e.name) (b := (endL e.name).isSome) rfl (by rw [if_pos t2]; rfl)
          rw [this]; unfold msgT; rw [if_neg t0, if_neg t1, if_pos t2]
        · exact hno2 3 h3 (.inr rfl) t0 t1 t2 _ _ _
  rw [if_neg h3]
  have : textD e = none := by
    refine textD_none h0 ?_
    intro q hq ⟨q1, q2⟩
    have : ∀ q ∈ rowsD, q.kind = 1 ∨ q.kind = 8 ∨ q.kind = 9 ∨ q.kind = 4 ∨ q.kind = 5 ∨ q.kind = 6 ∨ q.kind = 7 ∨ q.kind = 2 ∨ q.kind = 3 := by decide
    have := this q hq
    omega
  rw [this]
  unfold ansT
  simp
end
end
section
open Go.Lib

/-- The document's reading of a whole number's digits, as a number of 64 bits. -/
def valU : Nat → Bs → Option Nat
  | acc, [] => some acc
  | acc, c :: r => if 48 ≤ c.toNat ∧ c.toNat ≤ 57 then valU ((10 * acc + (c.toNat - 48)) % 18446744073709551616) r else none
def i64 (n : Nat) : Int := if n < 9223372036854775808 then (n : Int) else (n : Int) - 18446744073709551616
def neg64 (v : Int) : Int := if v = -9223372036854775808 then v else -v
def refDig (d : Bs) (neg : Bool) : Int := if d.length < 1 ∨ 19 < d.length then 0 else match valU 0 d with
  | none => 0
  | some n => if neg = true then neg64 (i64 n) else i64 n
def refWholeV (s : Bs) : Int := if s.head? = some 45 then refDig (s.drop 1) true else refDig s false
theorem valU_append : ∀ (a b : Bs) (acc : Nat), valU acc (a ++ b) = (valU acc a).bind fun u => valU u b
  | [], b, acc => rfl
  | c :: r, b, acc => by
    simp only [List.cons_append, valU]
    split
    · exact valU_append r b _
    · rfl
theorem valU_dec (n : Nat) (hn : n < 18446744073709551616) : valU 0 (decDigits n) = some n := by
  induction n using Nat.strongRecOn with
  | _ n ih =>
    by_cases h : n < 10
    · rw [decDigits_small h]
      simp only [valU, digit_toNat h]
      rw [if_pos (by omega)]
      congr 1
      omega
    · rw [decDigits_big h, valU_append, ih (n / 10) (by omega) (by omega)]
      simp only [Option.bind_some, valU, digit_toNat (show n % 10 < 10 by omega)]
      rw [if_pos (by omega)]
      congr 1
      omega
theorem i64_int (n : Nat) (h : n < 18446744073709551616) : Int64 (i64 n) := by unfold i64 Int64; split <;> omega
theorem neg64_int {v : Int} (h : Int64 v) : Int64 (neg64 v) := by unfold neg64 Int64 at *; split <;> omega
theorem valU_lt : ∀ (l : Bs) (acc n : Nat), acc < 18446744073709551616 → valU acc l = some n → n < 18446744073709551616
  | [], acc, n, ha, h => by cases h; exact ha
  | c :: r, acc, n, ha, h => by
    unfold valU at h
    split at h
    · exact valU_lt r _ n (Nat.mod_lt _ (by decide)) h
    · cases h
theorem refDig_int (d : Bs) (neg : Bool) : Int64 (refDig d neg) := by
  unfold refDig
  split
  · unfold Int64; omega
  · cases hv : valU 0 d with
    | none => unfold Int64; simp
    | some n =>
      have := i64_int n (valU_lt _ 0 n (by decide) hv)
      simp only
      split
      · exact neg64_int this
      · exact this
theorem refWhole_int (s : Bs) : Int64 (refWholeV s) := by
  unfold refWholeV
  split <;> exact refDig_int _ _
theorem nDigits19 {n : Nat} (h : n < 10000000000000000000) : nDigits n ≤ 19 := by
  apply Nat.le_of_not_lt
  intro h9
  have key : ∀ (k n : Nat), nDigits n = k + 1 → k = 0 ∨ 10 ^ k ≤ n := by
    intro k
    induction k with
    | zero => intro n _; exact .inl rfl
    | succ k ih =>
      intro n hn
      right
      by_cases hs : n < 10
      · rw [nDigits_small hs] at hn; omega
      · rw [nDigits_big hs] at hn
        rcases ih (n / 10) (by omega) with h0 | h0
        · subst h0; rw [Nat.pow_one]; omega
        · rw [Nat.pow_succ]; omega
  obtain ⟨k, hk⟩ : ∃ k, nDigits n = k + 1 := ⟨nDigits n - 1, by have := nDigits_pos n; omega⟩
  rcases key k n hk with h0 | h0
  · omega
  · have h2 : 10 ^ 19 ≤ 10 ^ k := Nat.pow_le_pow_right (by omega) (by omega)
    omega
theorem refWhole_itoa {v : Int} (h : Int64 v) : refWholeV (itoa v) = v := by
  unfold Int64 at h
  unfold refWholeV
  by_cases h0 : 0 ≤ v
  · obtain ⟨n, rfl⟩ : ∃ n : Nat, v = n := ⟨v.toNat, by omega⟩
    have hh : (itoa (n : Int)).head? ≠ some 45 := by
      rw [itoa_nat]
      intro e
      have := decDigits_digit n 45 (List.mem_of_mem_head? e)
      have e1 : (45 : UInt8).toNat = 45 := rfl
      omega
    rw [if_neg hh, itoa_nat]
    unfold refDig
    rw [valU_dec n (by omega)]
    have h1 := nDigits_pos n
    have h2 := nDigits19 (n := n) (by omega)
    rw [← decDigits_length] at h1 h2
    rw [if_neg (by omega)]
    simp only
    rw [if_neg (by decide)]
    unfold i64
    rw [if_pos (by omega)]
  · obtain ⟨n, rfl⟩ : ∃ n : Nat, v = -(n : Int) := ⟨(-v).toNat, by omega⟩
    rw [itoa_neg n (by omega)]
    have hd : (45 :: decDigits n : Bs).drop 1 = decDigits n := rfl
    rw [if_pos (show (45 :: decDigits n : Bs).head? = some 45 from rfl), hd]
    unfold refDig
    have h1 := nDigits_pos n
    have h2 := nDigits19 (n := n) (by omega)
    rw [← decDigits_length] at h1 h2
    rw [if_neg (by omega), valU_dec n (by omega)]
    simp only
    rw [if_pos trivial]
    unfold i64 neg64
    split
    · rw [if_neg (by omega)]
    · rw [if_pos (by omega)]; omega
def kindsL : List Bs := [wIdle, wSilent, wSent, wGot, wOut, wMade, wSpawned, wClosed, wHalted, wTrap]
def kindIx (w : Bs) : List Bs → Nat → Int
  | [], _ => -1
  | x :: r, i => if x = w then (i : Int) else kindIx w r (i + 1)
def kindOf (w : Bs) : Int := kindIx w kindsL 0
def guess3 (e : EventD) (t : Bs) : EventD :=
  if e.kind = 4 then { e with word := refWholeV t }
  else if e.kind = 5 then { e with chan := t }
  else if e.kind = 6 then { e with name := t }
  else match endL t with
    | some (c, n) => { e with chan := c, side := (n : Int) }
    | none => { e with chan := [], side := 0 }
def guess5 (e : EventD) (m u : Bs) : EventD :=
  if m = wWord then { e with word := refWholeV u }
  else if m = wLabel then { e with tag := 1, word := refWholeV u }
  else { e with tag := 2, name := u }
/-- What the document guesses of words. -/
def guessW (w : List Bs) : Option EventD :=
  if w.length ≤ 2 then some (slotE (refWholeV (w[0]?.getD [])))
  else match lastC 64 (w[1]?.getD []) with
    | none => none
    | some (a, p) =>
      let e1 : EventD := ⟨kindOf (w[2]?.getD []), refWholeV (w[0]?.getD []), a, refWholeV p, [], 0, 0, 0, []⟩
      let e2 := if 3 < w.length then guess3 e1 (w[3]?.getD []) else e1
      some (if 5 < w.length then guess5 e2 (w[4]?.getD []) (w[5]?.getD []) else e2)
theorem kind_rows : ∀ r ∈ rowsD, kindOf r.word = r.kind := by
  intro r hr
  simp only [rowsD, List.mem_cons, List.not_mem_nil, or_false] at hr
  rcases hr with rfl | rfl | rfl | rfl | rfl | rfl | rfl | rfl | rfl | rfl | rfl | rfl | rfl <;> rfl
/-- The rows, one by one: what the guess makes of a field. -/
theorem rows_kinds : ∀ r ∈ rowsD, (r.flds = [] ∧ r.tag = 0) ∨ (r.flds = [.word] ∧ r.kind = 4 ∧ r.tag = 0) ∨ (r.flds = [.made] ∧ r.kind = 5 ∧ r.tag = 0) ∨ (r.flds = [.child] ∧ r.kind = 6 ∧ r.tag = 0) ∨ (r.flds = [.place] ∧ r.kind = 7 ∧ r.tag = 0) ∨
    ((r.kind = 2 ∨ r.kind = 3) ∧ ((r.flds = [.place, .word] ∧ r.msg = wWord ∧ r.tag = 0) ∨ (r.flds = [.place, .label] ∧ r.msg = wLabel ∧ r.tag = 1) ∨ (r.flds = [.place, .handed] ∧ r.msg = wEnd ∧ r.tag = 2))) := by
  intro r hr
  simp only [rowsD, List.mem_cons, List.not_mem_nil, or_false] at hr
  rcases hr with rfl | rfl | rfl | rfl | rfl | rfl | rfl | rfl | rfl | rfl | rfl | rfl | rfl <;> simp
theorem guess3_place {e e0 : EventD} {t : Bs} (h : tellF .place e = some t) (h4 : e0.kind ≠ 4) (h5 : e0.kind ≠ 5) (h6 : e0.kind ≠ 6) : guess3 e0 t = setF .place e0 e := by
  simp only [tellF] at h
  split at h
  · rename_i hh; cases h
    obtain ⟨⟨d, n⟩, hd⟩ := Option.isSome_iff_exists.1 hh
    obtain ⟨_, rfl, h3, _⟩ := place_some hd
    unfold guess3
    rw [if_neg h4, if_neg h5, if_neg h6, hd]
    simp only [setF]
    rw [h3]
  · cases h
def e1G (x z a p : Bs) : EventD := ⟨kindOf z, refWholeV x, a, refWholeV p, [], 0, 0, 0, []⟩
theorem guessW3 {x y z a p : Bs} (h : lastC 64 y = some (a, p)) : guessW [x, y, z] = some (e1G x z a p) := by
  unfold guessW
  simp only [List.getElem?_cons_zero, List.getElem?_cons_succ, Option.getD_some, h]
  rfl
theorem guessW4 {x y z t a p : Bs} (h : lastC 64 y = some (a, p)) : guessW [x, y, z, t] = some (guess3 (e1G x z a p) t) := by
  unfold guessW
  simp only [List.getElem?_cons_zero, List.getElem?_cons_succ, Option.getD_some, h]
  rfl
theorem guessW6 {x y z t m u a p : Bs} (h : lastC 64 y = some (a, p)) : guessW [x, y, z, t, m, u] = some (guess5 (guess3 (e1G x z a p) t) m u) := by
  unfold guessW
  simp only [List.getElem?_cons_zero, List.getElem?_cons_succ, Option.getD_some, h]
  rfl
theorem guess_words {r : RowD} (hr : r ∈ rowsD) {e : EventD} (hi : IntsD e) (hw : whoD e = true) (hs : setR r e = e) {w : List Bs} (h : tellR r e = some w) : guessW w = some e := by
  have hk := kind_rows r hr
  have hl : lastC 64 (e.actor ++ 64 :: itoa e.pc) = some (e.actor, itoa e.pc) := lastC_some.2 ⟨rfl, itoa_no _ (by decide) (by decide)⟩
  have h6 := refWhole_itoa hi.word
  have he1 : r.tag = 0 → e1G (itoa e.slot) r.word e.actor (itoa e.pc) = headE r e := by
    intro ht
    unfold e1G headE
    rw [hk, refWhole_itoa hi.slot, refWhole_itoa hi.pc, ht]
  have he2 : e1G (itoa e.slot) r.word e.actor (itoa e.pc) = { headE r e with tag := 0 } := by
    unfold e1G headE
    rw [hk, refWhole_itoa hi.slot, refWhole_itoa hi.pc]
  have hkh : (headE r e).kind = r.kind := rfl
  unfold setR at hs
  unfold tellR headW at h
  rcases rows_kinds r hr with ⟨hf, ht⟩ | ⟨hf, hkk, ht⟩ | ⟨hf, hkk, ht⟩ | ⟨hf, hkk, ht⟩ | ⟨hf, hkk, ht⟩ | ⟨hkk, ⟨hf, hm, ht⟩ | ⟨hf, hm, ht⟩ | ⟨hf, hm, ht⟩⟩
  · rw [hf] at h hs
    cases h
    rw [guessW3 hl, he1 ht]
    exact congrArg some hs
  · rw [hf] at h hs
    obtain ⟨t, hte, rfl⟩ := Option.map_eq_some_iff.1 h
    cases hte
    rw [List.cons_append, List.cons_append, List.cons_append, List.nil_append, guessW4 hl, he1 ht]
    unfold guess3
    rw [if_pos (by rw [hkh]; exact hkk), h6]
    exact congrArg some hs
  · rw [hf] at h hs
    obtain ⟨t, hte, rfl⟩ := Option.map_eq_some_iff.1 h
    simp only [tellF] at hte
    split at hte
    · cases hte
      rw [List.cons_append, List.cons_append, List.cons_append, List.nil_append, guessW4 hl, he1 ht]
      unfold guess3
      rw [if_neg (by rw [hkh]; omega), if_pos (by rw [hkh]; exact hkk)]
      exact congrArg some hs
    · cases hte
  · rw [hf] at h hs
    obtain ⟨t, hte, rfl⟩ := Option.map_eq_some_iff.1 h
    simp only [tellF] at hte
    split at hte
    · cases hte
      rw [List.cons_append, List.cons_append, List.cons_append, List.nil_append, guessW4 hl, he1 ht]
      unfold guess3
      rw [if_neg (by rw [hkh]; omega), if_neg (by rw [hkh]; omega), if_pos (by rw [hkh]; exact hkk)]
      exact congrArg some hs
    · cases hte
  · rw [hf] at h hs
    obtain ⟨t, hte, rfl⟩ := Option.map_eq_some_iff.1 h
    rw [List.cons_append, List.cons_append, List.cons_append, List.nil_append, guessW4 hl, he1 ht, guess3_place hte (by rw [hkh]; omega) (by rw [hkh]; omega) (by rw [hkh]; omega)]
    exact congrArg some hs
  · rw [hf] at h hs
    simp only at h hs
    split at h
    · rename_i t u hte hu
      cases h
      cases hu
      rw [List.cons_append, List.cons_append, List.cons_append, List.nil_append, guessW6 hl, he1 ht, guess3_place hte (by rw [hkh]; omega) (by rw [hkh]; omega) (by rw [hkh]; omega)]
      unfold guess5
      rw [if_pos hm, h6]
      exact congrArg some hs
    · cases h
  · rw [hf] at h hs
    simp only at h hs
    split at h
    · rename_i t u hte hu
      cases h
      simp only [tellF] at hu
      split at hu
      · cases hu
        rw [List.cons_append, List.cons_append, List.cons_append, List.nil_append, guessW6 hl, he2, guess3_place hte (by show r.kind ≠ 4; omega) (by show r.kind ≠ 5; omega) (by show r.kind ≠ 6; omega)]
        unfold guess5
        rw [if_neg (by rw [hm]; decide), if_pos hm, h6]
        unfold headE at hs
        rw [ht] at hs
        exact congrArg some hs
      · cases hu
    · cases h
  · rw [hf] at h hs
    simp only at h hs
    split at h
    · rename_i t u hte hu
      cases h
      simp only [tellF] at hu
      split at hu
      · cases hu
        rw [List.cons_append, List.cons_append, List.cons_append, List.nil_append, guessW6 hl, he2, guess3_place hte (by show r.kind ≠ 4; omega) (by show r.kind ≠ 5; omega) (by show r.kind ≠ 6; omega)]
        unfold guess5
        rw [if_neg (by rw [hm]; decide), if_neg (by rw [hm]; decide)]
        unfold headE at hs
        rw [ht] at hs
        exact congrArg some hs
      · cases hu
    · cases h
/-- What the document guesses of an event's text is the event. -/
theorem guess_text {e : EventD} {s : Bs} (hi : IntsD e) (h : textD e = some s) : guessW (spC 32 s) = some e := by
  by_cases hk : e.kind = 0
  · unfold textD at h
    rw [if_pos hk] at h
    split at h
    · rename_i he
      cases h
      have hsp : spC 32 (itoa e.slot ++ tIdle) = [itoa e.slot, wIdle] := by
        unfold tIdle
        rw [spC_word 32 _ _ (itoa_no _ (by decide) (by decide)), spC_last 32 _ (by decide)]
      rw [hsp]
      unfold guessW
      rw [if_pos (by simp)]
      simp only [List.getElem?_cons_zero, Option.getD_some]
      rw [refWhole_itoa hi.slot, ← he]
    · cases h
  · obtain ⟨r, w, hr, hk1, ht1, htell, hrd, hs, hsp, hrow, hci, hlen⟩ := text_words h hk
    have hh := h
    rw [textD_row hr hk1.symm ht1.symm hi] at hh
    split at hh
    · rename_i hc
      rw [hsp]
      exact guess_words hr hi hc.1 hc.2 htell
    · cases hh
/-- What the document reads. -/
def refParseD (s : Bs) : Option EventD := match guessW (spC 32 s) with
  | none => none
  | some g => if textD g = some s then some g else none
theorem atoi_int {s : Bs} {v : Int} (h : atoiAll s = .ok v) : Int64 v := by
  unfold atoiAll at h
  unfold Int64
  split at h
  · cases h
  · simp only at h
    split at h
    · cases h
    · cases h
    · split at h
      · cases h
      · split at h
        · cases h
        · injection h with h
          subst h
          split <;> omega
theorem wholeL_int {s : Bs} {v : Int} (h : wholeL s = some v) : Int64 v := by
  unfold wholeL at h
  split at h
  · rename_i u hu
    split at h
    · cases h; exact atoi_int hu
    · cases h
  · cases h
theorem int64_0 : Int64 0 := by unfold Int64; omega
theorem readF_ints {f : Fld} {e e' : EventD} {s : Bs} (hi : IntsD e) (h : readF f e s = some e') : IntsD e' := by
  cases f with
  | word =>
    obtain ⟨n, hn, rfl⟩ := Option.map_eq_some_iff.1 h
    exact ⟨hi.slot, hi.pc, wholeL_int hn⟩
  | label =>
    simp only [readF] at h
    split at h
    · rename_i n hn
      split at h
      · cases h; exact ⟨hi.slot, hi.pc, wholeL_int hn⟩
      · cases h
    · cases h
  | made =>
    simp only [readF] at h
    split at h
    · cases h; exact ⟨hi.slot, hi.pc, hi.word⟩
    · cases h
  | child =>
    simp only [readF] at h
    split at h
    · cases h; exact ⟨hi.slot, hi.pc, hi.word⟩
    · cases h
  | place =>
    simp only [readF] at h
    split at h
    · cases h; exact ⟨hi.slot, hi.pc, hi.word⟩
    · cases h
  | handed =>
    simp only [readF] at h
    split at h
    · cases h; exact ⟨hi.slot, hi.pc, hi.word⟩
    · cases h
theorem readH_ints {r : RowD} {x y : Bs} {e : EventD} (h : readH r x y = some e) : IntsD e := by
  unfold readH at h
  split at h
  · cases h
  · split at h
    · split at h
      · rename_i s q hs hq
        split at h
        · cases h; exact ⟨wholeL_int hs, wholeL_int hq, int64_0⟩
        · cases h
      · cases h
    · cases h
theorem readR_ints {r : RowD} (hr : r ∈ rowsD) {w : List Bs} {e : EventD} (h : readR r w = some e) : IntsD e := by
  obtain ⟨_, _, _, _, _, _, hsh⟩ := rows_shape r hr
  unfold readR at h
  split at h
  · cases h
  · rename_i e0 h0
    have h0 := readH_ints h0
    rcases hsh with ⟨hf, _⟩ | ⟨f, hf, _⟩ | ⟨g, hf, _, hg⟩
    · rw [hf] at h; cases h; exact h0
    · rw [hf] at h; exact readF_ints h0 h
    · rw [hf] at h
      obtain ⟨e1, he1, he2⟩ := Option.bind_eq_some_iff.1 h
      exact readF_ints (readF_ints h0 he1) he2
theorem parseD_ints {s : Bs} {e : EventD} (h : parseD s = some e) : IntsD e := by
  unfold parseD at h
  split at h
  · obtain ⟨n, hn, rfl⟩ := Option.map_eq_some_iff.1 h
    exact ⟨wholeL_int hn, int64_0, int64_0⟩
  · split at h
    · cases h
    · split at h
      · cases h
      · rename_i r hr
        exact readR_ints (List.mem_of_find?_eq_some hr) h
theorem guess_slot {w : List Bs} {e : EventD} (h : guessW w = some e) : Int64 e.slot := by
  have key3 : ∀ e t, (guess3 e t).slot = e.slot := by
    intro e t; unfold guess3
    split
    · rfl
    · split
      · rfl
      · split
        · rfl
        · split <;> rfl
  have key5 : ∀ e t u, (guess5 e t u).slot = e.slot := by
    intro e t u; unfold guess5
    split
    · rfl
    · split <;> rfl
  unfold guessW at h
  split at h
  · cases h; exact refWhole_int _
  · split at h
    · cases h
    · simp only [Option.some.injEq] at h
      rw [← h]
      split
      · rw [key5]
        split
        · rw [key3]; exact refWhole_int _
        · exact refWhole_int _
      · split
        · rw [key3]; exact refWhole_int _
        · exact refWhole_int _
theorem ref_parse (s : Bs) : refParseD s = parseD s := by
  unfold refParseD
  cases h : parseD s with
  | some e =>
    have ht := parse_back h
    rw [guess_text (parseD_ints h) ht]
    simp only
    rw [if_pos ht]
  | none =>
    cases hgs : guessW (spC 32 s) with
    | none => rfl
    | some g =>
      simp only
      rw [if_neg]
      intro ht
      rw [text_back (guess_slot hgs) ht] at h
      cases h
end
section
open Go.Lib

/-- At most twenty numbers, one at least. -/
def fixL (l : List Nat) : List Nat := if l.take 20 = [] then [0] else l.take 20
def name0 (l : List Nat) : Bs := textA (fixL l)
def name1 (l : List Nat) : Bs := match fixL l with
  | [k] => 99 :: decDigits k
  | m => textA m.dropLast ++ 43 :: decDigits (m.getLast?.getD 0)
def name2 (l : List Nat) : Bs := name1 (fixL l).tail ++ 58 :: decDigits ((fixL l).headD 0 % 2)
theorem fixL_ne (l : List Nat) : fixL l ≠ [] := by unfold fixL; split <;> simp_all
theorem fixL_lt {l : List Nat} (h : ∀ n ∈ l, n < 256) : ∀ n ∈ fixL l, n < 256 := by
  intro n hn
  unfold fixL at hn
  split at hn
  · rw [List.mem_singleton] at hn; omega
  · exact h n (List.mem_of_mem_take hn)
theorem fixL_len (l : List Nat) : (fixL l).length ≤ 20 := by
  unfold fixL
  split
  · simp
  · rw [List.length_take]; omega
theorem decDigits_len {n : Nat} (h : n < 256) : (decDigits n).length ≤ 3 := by
  by_cases h1 : n < 10
  · rw [decDigits_small h1]; simp
  · rw [decDigits_big h1, List.length_append]
    by_cases h2 : n / 10 < 10
    · rw [decDigits_small h2]; simp
    · rw [decDigits_big h2, List.length_append, decDigits_small (by omega)]; simp
theorem joinC_len (c : UInt8) : ∀ (l : List Bs), (∀ w ∈ l, w.length ≤ 3) → (joinC c l).length ≤ 4 * l.length
  | [], _ => by simp [joinC]
  | [w], h => by have := h w (by simp); simp [joinC]; omega
  | w :: y :: r, h => by
    have h1 := h w (by simp)
    have h2 := joinC_len c (y :: r) (fun v hv => h v (List.mem_cons_of_mem _ hv))
    rw [joinC, List.length_append, List.length_cons]
    simp only [List.length_cons] at h2 ⊢
    omega
theorem textA_len {l : List Nat} (h : ∀ n ∈ l, n < 256) : (textA l).length ≤ 4 * l.length := by
  have := joinC_len 46 (l.map decDigits) (by
    intro w hw
    obtain ⟨n, hn, rfl⟩ := List.mem_map.1 hw
    exact decDigits_len (h n hn))
  rw [List.length_map] at this
  exact this
theorem name0_len {l : List Nat} (h : ∀ n ∈ l, n < 256) : (name0 l).length ≤ 80 := by
  have h1 := textA_len (fixL_lt h)
  have h2 := fixL_len l
  unfold name0
  omega
theorem name1_len {l : List Nat} (h : ∀ n ∈ l, n < 256) : (name1 l).length ≤ 90 := by
  have h1 := fixL_lt h
  have h2 := fixL_ne l
  have h3 := fixL_len l
  unfold name1
  generalize fixL l = m at h1 h2 h3
  match m, h1, h2 with
  | [k], h1, _ =>
    have := decDigits_len (h1 k (by simp))
    simp only [List.length_cons]; omega
  | a :: b :: r, h1, _ =>
    have e1 := textA_len (l := (a :: b :: r).dropLast) (fun n hn => h1 n (List.dropLast_subset _ hn))
    have e2 : (a :: b :: r).getLast?.getD 0 < 256 := by
      have e := List.getLast?_eq_some_getLast (l := a :: b :: r) (by simp)
      rw [e]
      exact h1 _ (List.getLast_mem (by simp))
    have e3 := decDigits_len e2
    rw [List.length_dropLast] at e1
    simp only [List.length_append, List.length_cons] at e1 h3 ⊢
    omega
theorem name2_len {l : List Nat} (h : ∀ n ∈ l, n < 256) : (name2 l).length ≤ 94 := by
  have h1 := name1_len (l := (fixL l).tail) (fun n hn => fixL_lt h n (List.mem_of_mem_tail hn))
  have h2 := decDigits_len (n := (fixL l).headD 0 % 2) (by omega)
  unfold name2
  simp only [List.length_append, List.length_cons]
  omega
end
end Go.Proofs.YtpbjblbeepbklaaGreatDoor
