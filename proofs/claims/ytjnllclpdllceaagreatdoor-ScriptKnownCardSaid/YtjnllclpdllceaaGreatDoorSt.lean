/- Plain lists: what is printed is read. -/
import Derived.Test.YtjnllclpdllceaaGreatDoorSs
namespace Go.Proofs.YtjnllclpdllceaaGreatDoor
set_option linter.unusedSimpArgs false
set_option linter.unusedVariables false
open Go.Lib

def NoSp (l : Bs) : Prop := ∀ c ∈ l, c ≠ 32
theorem dec_nosp (n : Nat) : NoSp (decDigits n) := fun c hc => (dec_plain n c hc).2
theorem dec_nonl (n : Nat) : NoNl (decDigits n) := fun c hc => (dec_plain n c hc).1

theorem numL_dec {n : Nat} (h : n < 1000000000) : numL (decDigits n) = some n := numL_some.2 ⟨rfl, h⟩

/-- A script that may be printed. -/
structure Valid (s : ScriptD) : Prop where
  config : configOk s.chans s.actors s.cap = true
  turns : ∀ t ∈ s.turns, turnOk t = true
  most : s.turns.length ≤ 4096
  bytes : s.mod.length ≤ 65536

theorem printD_valid {s : ScriptD} (h : Valid s) : printD s = (textT s, 0) := by
  unfold printD
  rw [if_neg, if_neg]
  · have := h.most; have := h.bytes; omega
  · rintro (e | e)
    · rw [h.config] at e; cases e
    · rw [List.any_eq_true] at e
      obtain ⟨t, ht, e⟩ := e
      rw [h.turns t ht] at e; cases e

theorem printD_ok {s : ScriptD} {t : Bs} (h : printD s = (t, 0)) : Valid s ∧ t = textT s := by
  unfold printD at h
  split at h
  · cases h
  · rename_i h1
    split at h
    · cases h
    · rename_i h2
      refine ⟨⟨?_, ?_, by omega, by omega⟩, by cases h; rfl⟩
      · cases hc : configOk s.chans s.actors s.cap with
        | true => rfl
        | false => exact absurd (.inl hc) h1
      · intro t ht
        cases hc : turnOk t with
        | true => rfl
        | false => exact absurd (.inr (List.any_eq_true.2 ⟨t, ht, by rw [hc]; rfl⟩)) h1

theorem config_nat {a b c : Int} (h : configOk a b c = true) : ∃ i j k : Nat, a = i ∧ b = j ∧ c = k ∧ i < 1000000000 ∧ j < 1000000000 ∧ k < 1000000000 := by
  unfold configOk at h
  have h := of_decide_eq_true h
  exact ⟨a.toNat, b.toNat, c.toNat, by omega, by omega, by omega, by omega, by omega, by omega⟩

theorem machine_nosp : NoSp wMachine := by unfold NoSp wMachine; decide
theorem twin_nosp : NoSp wTwin := by unfold NoSp wTwin; decide
theorem bytes_nosp : NoSp wBytes := by unfold NoSp wBytes; decide
theorem pick_nosp : NoSp wPick := by unfold NoSp wPick; decide
theorem round_nosp : NoSp wRound := by unfold NoSp wRound; decide
theorem show_nosp : NoSp wShow := by unfold NoSp wShow; decide
theorem rows_nosp : NoSp wRows := by unfold NoSp wRows; decide

theorem head_words (i j k : Nat) (tw : Bool) (m : Bs) (ts : List TurnD) : spW (headT ⟨i, j, k, tw, m, ts⟩) = [wMachine, decDigits i, decDigits j, decDigits k] ++ (if tw then [wTwin] else []) := by
  unfold headT
  simp only [itoa_nat, List.append_assoc, List.cons_append]
  rw [spW_word _ _ machine_nosp, spW_word _ _ (dec_nosp i), spW_word _ _ (dec_nosp j)]
  cases tw with
  | false => simp only [if_neg (show ¬ (false = true) by decide), List.append_nil]; rw [spW_last _ (dec_nosp k)]
  | true => simp only [if_pos]; rw [spW_word _ _ (dec_nosp k), spW_last _ twin_nosp]; rfl

theorem step_head {s : ScriptD} (h : configOk s.chans s.actors s.cap = true) : stepS 0 zeroS (spW (headT s)) = .ok (1, { s with mod := [], turns := [] }) := by
  obtain ⟨a, b, c, tw, m, ts⟩ := s
  obtain ⟨i, j, k, hi, hj, hk, h1, h2, h3⟩ := config_nat h
  simp only at hi hj hk h
  subst hi hj hk
  rw [head_words]
  unfold stepS
  rw [if_pos rfl]
  cases tw with
  | false =>
    simp [machineS, numsL, numL_dec h1, numL_dec h2, numL_dec h3, h, zeroS, Except.map]
  | true =>
    simp [machineS, numsL, numL_dec h1, numL_dec h2, numL_dec h3, h, zeroS, Except.map]

theorem bytes_words (b : Bs) : spW (bytesLine b) = [wBytes, hexL b] := by
  unfold bytesLine
  rw [spW_word _ _ bytes_nosp, spW_last _ (fun c hc => (hexL_plain b c hc).2)]

theorem step_bytes {s : ScriptD} {b : Bs} (hm : s.mod.length % 24 = 0) (h0 : b ≠ []) (h1 : b.length ≤ 24) (h2 : s.mod.length + b.length ≤ 65536) : stepS 1 s (spW (bytesLine b)) = .ok (1, { s with mod := s.mod ++ b }) := by
  have hp : 0 < b.length := List.length_pos_iff.2 h0
  rw [bytes_words]
  unfold stepS bytesS
  rw [if_neg (by decide), if_pos ⟨rfl, rfl⟩]
  simp only
  rw [if_neg (by rw [hexL_length]; omega), unhexL_hexL]
  simp only
  rw [if_neg (by omega)]
  rfl

theorem step_turn {s : ScriptD} {t : TurnD} {ph : Nat} (hph : 1 ≤ ph) (ht : turnOk t = true) (hm : s.turns.length < 4096) : stepS ph s (spW (lineT t)) = .ok (2, { s with turns := s.turns ++ [t] }) := by
  obtain ⟨kind, slot, times⟩ := t
  have hadd : addTurn s ⟨kind, slot, times⟩ = .ok { s with turns := s.turns ++ [⟨kind, slot, times⟩] } := by
    unfold addTurn
    rw [ht, if_neg (by decide), if_neg (by omega)]
  have ht' := ht
  unfold turnOk at ht'
  simp only [Bool.or_eq_true, decide_eq_true_eq] at ht'
  unfold stepS
  rw [if_neg (by omega)]
  rcases ht' with (⟨rfl, h1, h2, h3, h4⟩ | ⟨rfl, rfl, h1, h2⟩) | ⟨rfl | rfl, rfl, rfl⟩
  · obtain ⟨i, rfl⟩ : ∃ i : Nat, slot = i := ⟨slot.toNat, by omega⟩
    obtain ⟨j, rfl⟩ : ∃ j : Nat, times = j := ⟨times.toNat, by omega⟩
    have e : spW (lineT ⟨0, i, j⟩) = [wPick, decDigits i, decDigits j] := by
      unfold lineT
      simp only [if_pos, itoa_nat]
      rw [List.append_assoc, List.cons_append, spW_word _ _ pick_nosp, spW_word _ _ (dec_nosp i), spW_last _ (dec_nosp j)]
    rw [e, if_neg (by rintro ⟨_, h⟩; simp only [List.head?_cons, Option.some.injEq] at h; exact absurd h (by decide))]
    simp only [turnS, numsL, numL_dec (show i < 1000000000 by omega), numL_dec (show j < 1000000000 by omega), Option.map_some, if_pos, hadd, Except.map]
  · obtain ⟨j, rfl⟩ : ∃ j : Nat, times = j := ⟨times.toNat, by omega⟩
    have e : spW (lineT ⟨1, 0, j⟩) = [wRound, decDigits j] := by
      unfold lineT
      simp only [if_pos, if_neg (show ¬ ((1 : Int) = 0) by decide), itoa_nat]
      rw [spW_word _ _ round_nosp, spW_last _ (dec_nosp j)]
    rw [e, if_neg (by rintro ⟨_, h⟩; simp only [List.head?_cons, Option.some.injEq] at h; exact absurd h (by decide))]
    simp only [turnS, numsL, numL_dec (show j < 1000000000 by omega), Option.map_some, if_neg (show ¬ (wRound = wPick) by decide), if_pos, hadd, Except.map]
  · have e : spW (lineT ⟨2, 0, 0⟩) = [wShow] := by
      unfold lineT
      simp only [if_neg (show ¬ ((2 : Int) = 0) by decide), if_neg (show ¬ ((2 : Int) = 1) by decide), if_pos]
      rw [spW_last _ show_nosp]
    rw [e, if_neg (by rintro ⟨_, h⟩; simp only [List.head?_cons, Option.some.injEq] at h; exact absurd h (by decide))]
    simp only [turnS, numsL, if_neg (show ¬ (wShow = wPick) by decide), if_neg (show ¬ (wShow = wRound) by decide), if_pos, hadd, Except.map]
  · have e : spW (lineT ⟨3, 0, 0⟩) = [wRows] := by
      unfold lineT
      simp only [if_neg (show ¬ ((3 : Int) = 0) by decide), if_neg (show ¬ ((3 : Int) = 1) by decide), if_neg (show ¬ ((3 : Int) = 2) by decide)]
      rw [spW_last _ rows_nosp]
    rw [e, if_neg (by rintro ⟨_, h⟩; simp only [List.head?_cons, Option.some.injEq] at h; exact absurd h (by decide))]
    simp only [turnS, numsL, if_neg (show ¬ (wRows = wPick) by decide), if_neg (show ¬ (wRows = wRound) by decide), if_neg (show ¬ (wRows = wShow) by decide), if_pos, hadd, Except.map]

theorem fold_bytes : ∀ (n : Nat) (l : Bs) (s : ScriptD) (at_ : Nat), l.length ≤ n → s.mod.length % 24 = 0 → s.mod.length + l.length ≤ 65536 →
    foldS ((chunks l).map bytesLine) at_ 1 s = .ok (1, { s with mod := s.mod ++ l })
  | n, l, s, at_, hn, hm, hb => by
    by_cases hl : l = []
    · subst hl
      rw [chunks]
      simp [foldS]
    · have hp : 0 < l.length := List.length_pos_iff.2 hl
      cases n with
      | zero => omega
      | succ n =>
        rw [chunks, dif_neg hl, List.map_cons, foldS, step_bytes hm (by intro e; have := congrArg List.length e; simp only [List.length_take, List.length_nil] at this; omega) (by simp only [List.length_take]; omega) (by simp only [List.length_take]; omega)]
        simp only
        by_cases h24 : l.length ≤ 24
        · rw [List.take_of_length_le h24, List.drop_of_length_le h24, chunks]
          simp [foldS]
        · rw [fold_bytes n (l.drop 24) _ _ (by simp only [List.length_drop]; omega) (by simp only [List.length_append, List.length_take]; omega) (by simp only [List.length_append, List.length_take, List.length_drop]; omega)]
          simp only [List.append_assoc, List.take_append_drop]

theorem fold_turns : ∀ (l : List TurnD) (s : ScriptD) (at_ ph : Nat), 1 ≤ ph → (∀ t ∈ l, turnOk t = true) → s.turns.length + l.length ≤ 4096 →
    ∃ ph', foldS (l.map lineT) at_ ph s = .ok (ph', { s with turns := s.turns ++ l })
  | [], s, at_, ph, hph, _, _ => ⟨ph, by simp [foldS]⟩
  | t :: r, s, at_, ph, hph, ht, hl => by
    simp only [List.length_cons] at hl
    obtain ⟨ph', h⟩ := fold_turns r { s with turns := s.turns ++ [t] } (at_ + 1) 2 (by omega) (fun x hx => ht x (List.mem_cons_of_mem _ hx)) (by simp only [List.length_append, List.length_cons, List.length_nil]; omega)
    refine ⟨ph', ?_⟩
    rw [List.map_cons, foldS, step_turn hph (ht t (List.mem_cons_self)) (by omega)]
    simp only
    rw [h]
    simp

theorem fold_lines {s : ScriptD} (h : Valid s) : ∃ ph, foldS (linesOf s) 0 0 zeroS = .ok (ph, s) := by
  unfold linesOf
  rw [foldS, step_head h.config]
  simp only
  rw [foldS_append, fold_bytes _ s.mod _ _ (Nat.le_refl _) rfl (by have := h.bytes; simp; omega)]
  simp only
  obtain ⟨ph, hp⟩ := fold_turns s.turns { s with mod := [] ++ s.mod, turns := [] } (0 + 1 + ((chunks s.mod).map bytesLine).length) 1 (by omega) h.turns (by have := h.most; simp; omega)
  exact ⟨ph, by rw [hp]; simp⟩
end Go.Proofs.YtjnllclpdllceaaGreatDoor
