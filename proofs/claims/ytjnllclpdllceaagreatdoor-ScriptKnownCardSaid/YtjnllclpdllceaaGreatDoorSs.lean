/- Plain lists: the lines that are printed. -/
import Derived.Test.YtjnllclpdllceaaGreatDoorSr
namespace Go.Proofs.YtjnllclpdllceaaGreatDoor
set_option linter.unusedSimpArgs false
set_option linter.unusedVariables false
open Go.Lib

def hexL : Bs → Bs
  | [] => []
  | b :: r => hx2 b ++ hexL r
def bytesLine (c : Bs) : Bs := wBytes ++ 32 :: hexL c
def chunks (l : Bs) : List Bs := if h : l = [] then [] else l.take 24 :: chunks (l.drop 24)
termination_by l.length
decreasing_by
  have : 0 < l.length := List.length_pos_iff.2 h
  simp only [List.length_drop]; omega

def linesOf (s : ScriptD) : List Bs := headT s :: ((chunks s.mod).map bytesLine ++ s.turns.map lineT)

theorem bytesT_mid : ∀ (l : Bs) (i : Nat), i % 24 ≠ 0 → bytesT i l = hexL (l.take (24 - i % 24)) ++ bytesT (i + (24 - i % 24)) (l.drop (24 - i % 24))
  | [], i, _ => by simp [bytesT, hexL]
  | b :: r, i, h => by
    rw [bytesT, if_neg h]
    by_cases h1 : i % 24 = 23
    · rw [h1]; simp [hexL]
    · obtain ⟨k, hk⟩ : ∃ k, 24 - i % 24 = k + 1 := ⟨23 - i % 24, by omega⟩
      have := bytesT_mid r (i + 1) (by omega)
      rw [this, hk, show 24 - (i + 1) % 24 = k by omega, List.take_succ_cons, List.drop_succ_cons, hexL, show i + 1 + k = i + (k + 1) by omega]
      simp

theorem bytesT_chunk (l : Bs) (i : Nat) (hi : i % 24 = 0) (hl : l ≠ []) : bytesT i l = 10 :: bytesLine (l.take 24) ++ bytesT (i + 24) (l.drop 24) := by
  cases l with
  | nil => exact absurd rfl hl
  | cons b r =>
    rw [bytesT, if_pos hi, bytesT_mid r (i + 1) (by omega), show 24 - (i + 1) % 24 = 23 by omega]
    simp [bytesLine, hexL, List.take_succ_cons, List.drop_succ_cons, show i + 1 + 23 = i + 24 by omega]

theorem bytesT_chunks : ∀ (n : Nat) (l : Bs) (i : Nat), l.length ≤ n → i % 24 = 0 → bytesT i l = ((chunks l).map bytesLine).flatMap fun x => 10 :: x
  | 0, l, i, hn, hi => by
    obtain rfl : l = [] := List.length_eq_zero_iff.1 (by omega)
    rw [chunks]; simp [bytesT]
  | n + 1, l, i, hn, hi => by
    by_cases hl : l = []
    · subst hl; rw [chunks]; simp [bytesT]
    · have : 0 < l.length := List.length_pos_iff.2 hl
      rw [bytesT_chunk l i hi hl, chunks, dif_neg hl, bytesT_chunks n (l.drop 24) (i + 24) (by simp only [List.length_drop]; omega) (by omega)]
      simp

theorem textT_lines (s : ScriptD) : textT s = flat (linesOf s) := by
  unfold textT linesOf
  rw [← flat_shift, bytesT_chunks _ s.mod 0 (Nat.le_refl _) rfl]
  simp [List.flatMap_map]

theorem chunks_snoc : ∀ (n : Nat) (m b : Bs), m.length ≤ n → m.length % 24 = 0 → b ≠ [] → b.length ≤ 24 → chunks (m ++ b) = chunks m ++ [b]
  | n, m, b, hn, hm, hb, hb2 => by
    by_cases h0 : m = []
    · subst h0
      rw [chunks, chunks.eq_def []]
      rw [List.nil_append, dif_neg hb, List.take_of_length_le hb2, List.drop_of_length_le hb2, chunks]
      simp
    · have hp : 0 < m.length := List.length_pos_iff.2 h0
      cases n with
      | zero => omega
      | succ n =>
        rw [chunks, dif_neg (by simp [h0]), chunks.eq_def m, dif_neg h0, List.take_append_of_le_length (by omega), List.drop_append_of_le_length (by omega)]
        rw [chunks_snoc n (m.drop 24) b (by simp only [List.length_drop]; omega) (by simp only [List.length_drop]; omega) hb hb2]
        rfl

theorem hexL_length : ∀ b : Bs, (hexL b).length = 2 * b.length
  | [] => rfl
  | b :: r => by simp [hexL, hx2, hexL_length r]; omega

theorem hx_half {n : Nat} (h : n < 16) : half (hx n) = some n := by
  unfold hx half
  split
  · rw [UInt8.toNat_ofNat', if_pos (by omega)]; congr 1; omega
  · rw [UInt8.toNat_ofNat', if_neg (by omega), if_pos (by omega)]; congr 1; omega

theorem half_hx {c : UInt8} {n : Nat} (h : half c = some n) : n < 16 ∧ hx n = c := by
  unfold half at h
  split at h
  · simp only [Option.some.injEq] at h
    refine ⟨by omega, ?_⟩
    unfold hx
    rw [if_pos (by omega)]
    apply UInt8.toNat_inj.1
    rw [UInt8.toNat_ofNat']; omega
  · split at h
    · simp only [Option.some.injEq] at h
      refine ⟨by omega, ?_⟩
      unfold hx
      rw [if_neg (by omega)]
      apply UInt8.toNat_inj.1
      rw [UInt8.toNat_ofNat']; omega
    · cases h

theorem unhexL_hexL : ∀ b : Bs, unhexL (hexL b) = some b
  | [] => rfl
  | b :: r => by
    have hb := b.toNat_lt
    simp only [hexL, hx2, List.cons_append, List.nil_append, unhexL, hx_half (show b.toNat / 16 < 16 by omega), hx_half (show b.toNat % 16 < 16 by omega), unhexL_hexL r, Option.map_some]
    congr 2
    apply UInt8.toNat_inj.1
    rw [UInt8.toNat_ofNat']; omega

theorem hexL_unhexL : ∀ (d b : Bs), unhexL d = some b → hexL b = d
  | [], b, h => by simp only [unhexL, Option.some.injEq] at h; subst h; rfl
  | [_], b, h => by simp [unhexL] at h
  | x :: y :: r, b, h => by
    unfold unhexL at h
    cases hx' : half x with
    | none => rw [hx'] at h; simp at h
    | some p =>
      cases hy : half y with
      | none => rw [hx', hy] at h; simp at h
      | some q =>
        rw [hx', hy] at h
        cases hr : unhexL r with
        | none => rw [hr] at h; simp at h
        | some t =>
          rw [hr] at h
          simp only [Option.map_some, Option.some.injEq] at h
          subst h
          obtain ⟨h1, h2⟩ := half_hx hx'
          obtain ⟨h3, h4⟩ := half_hx hy
          rw [hexL, hexL_unhexL r t hr]
          unfold hx2
          have e : (UInt8.ofNat (16 * p + q)).toNat = 16 * p + q := by rw [UInt8.toNat_ofNat']; omega
          rw [e, show (16 * p + q) / 16 = p by omega, show (16 * p + q) % 16 = q by omega, h2, h4]
          rfl

theorem hx_plain (n : Nat) (h : n < 16) : (hx n).toNat ≠ 10 ∧ (hx n).toNat ≠ 32 := by
  unfold hx
  split
  · rw [UInt8.toNat_ofNat']; omega
  · rw [UInt8.toNat_ofNat']; omega

theorem hexL_plain : ∀ (b : Bs), ∀ c ∈ hexL b, c ≠ 10 ∧ c ≠ 32
  | [], c, h => by simp [hexL] at h
  | b :: r, c, h => by
    have hb := b.toNat_lt
    simp only [hexL, hx2, List.cons_append, List.nil_append, List.mem_cons] at h
    have key : ∀ n, n < 16 → hx n ≠ 10 ∧ hx n ≠ 32 := fun n hn => ⟨fun e => (hx_plain n hn).1 (by rw [e]; rfl), fun e => (hx_plain n hn).2 (by rw [e]; rfl)⟩
    rcases h with rfl | rfl | h
    · exact key _ (by omega)
    · exact key _ (by omega)
    · exact hexL_plain r c h

theorem dec_plain (n : Nat) : ∀ c ∈ decDigits n, c ≠ 10 ∧ c ≠ 32 := by
  intro c hc
  have := decDigits_digit n c hc
  constructor
  · rintro rfl; exact absurd this.1 (by decide)
  · rintro rfl; exact absurd this.1 (by decide)
end Go.Proofs.YtjnllclpdllceaaGreatDoor
