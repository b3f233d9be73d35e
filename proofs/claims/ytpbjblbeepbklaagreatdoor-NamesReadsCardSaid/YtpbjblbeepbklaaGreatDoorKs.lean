/- Plain: an event of an act. Plain: an event that a short text tells is small. Plain: how long an event's text is. -/
import Derived.Test.YtpbjblbeepbklaaGreatDoorKa
import Derived.Test.YtpbjblbeepbklaaGreatDoorKf
import Derived.Test.YtpbjblbeepbklaaGreatDoorKb
import Derived.Test.YtpbjblbeepbklaaGreatDoorKm
namespace Go.Proofs.YtpbjblbeepbklaaGreatDoor
set_option linter.unusedSimpArgs false
set_option linter.unusedVariables false
section
open Go.Lib

def baseE (K Sl P T S2 S8 wd : Int) (A C N DS : Bs) : EventD :=
  if K = 0 then ⟨0, wd, [], 0, [], 0, 0, 0, []⟩
  else if K = 4 then ⟨K, Sl, A, P, [], 0, 0, wd, []⟩
  else if K = 5 then ⟨K, Sl, A, P, A ++ 43 :: DS, 0, 0, 0, []⟩
  else if K = 6 then ⟨K, Sl, A, P, [], 0, 0, 0, A ++ 46 :: DS⟩
  else if K = 7 then ⟨K, Sl, A, P, C, S2, 0, 0, []⟩
  else if K = 2 ∨ K = 3 then ⟨K, Sl, A, P, C, S2, T, if T = 1 then S8 else if T = 2 then 0 else wd, if T = 2 then N else []⟩
  else ⟨K, Sl, A, P, [], 0, 0, 0, []⟩
def oddE (O tg : Int) (N0 N1 : Bs) (E : EventD) : EventD :=
  if O = 1 then ⟨E.kind, E.slot, E.actor, E.pc, E.chan, E.side, E.tag, 9, E.name⟩
  else if O = 2 then ⟨E.kind, E.slot, E.actor, E.pc, E.chan, 2, E.tag, E.word, E.name⟩
  else if O = 3 then ⟨E.kind, E.slot, E.actor, E.pc, E.chan, E.side, E.tag, E.word, N0⟩
  else if O = 4 then ⟨E.kind, E.slot, E.actor, E.pc, N1, E.side, E.tag, E.word, E.name⟩
  else if O = 5 then ⟨E.kind, E.slot, E.actor ++ [46], E.pc, E.chan, E.side, E.tag, E.word, E.name⟩
  else if O = 6 then ⟨E.kind, E.slot, E.actor, E.pc, E.chan, E.side, tg, E.word, E.name⟩
  else if O = 7 then ⟨E.kind, neg64 E.slot, E.actor, E.pc, E.chan, E.side, E.tag, E.word, E.name⟩
  else if O = 8 then ⟨E.kind, E.slot, E.actor, neg64 E.pc, E.chan, E.side, E.tag, E.word, E.name⟩
  else E
structure ActD where
  kind : Nat
  actor : List Nat
  chan : List Nat
  name : List Nat
  side : Nat
  tag : Nat
  word : Int
  odd : Nat
structure ActOk (x : ActD) : Prop where
  kind : x.kind < 256
  actor : ∀ n ∈ x.actor, n < 256
  chan : ∀ n ∈ x.chan, n < 256
  name : ∀ n ∈ x.name, n < 256
  side : x.side < 256
  tag : x.tag < 256
  word : Int64 x.word
  odd : x.odd < 256
def baseA (x : ActD) : EventD := baseE (x.kind % 10 : Nat) (x.kind / 10 : Nat) (x.tag / 3 : Nat) (x.tag % 3 : Nat) (x.side % 2 : Nat) (x.side % 8 : Nat) x.word (name0 x.actor) (name1 x.chan) (name2 x.name) (decDigits x.side)
def eventE (x : ActD) : EventD := oddE (x.odd % 16 : Nat) x.tag (name0 x.name) (name1 x.name) (baseA x)
theorem base_small {x : ActD} (h : ActOk x) : (baseA x).actor.length ≤ 80 ∧ (baseA x).chan.length ≤ 90 ∧ (baseA x).name.length ≤ 94 ∧ Int64 (baseA x).slot ∧ Int64 (baseA x).pc ∧ Int64 (baseA x).word ∧ Int64 (baseA x).side ∧ Int64 (baseA x).kind ∧ Int64 (baseA x).tag := by
  have h1 := name0_len h.actor
  have h2 := name1_len h.chan
  have h3 := name2_len h.name
  have h4 := decDigits_len h.side
  have hw := h.word
  have hk := h.kind
  have ht := h.tag
  have hs := h.side
  unfold Int64 at hw ⊢
  unfold baseA baseE
  split
  · simp; omega
  split
  · simp; omega
  split
  · simp; omega
  split
  · simp; omega
  split
  · simp; omega
  split
  · have q1 : -9223372036854775808 ≤ ((x.kind / 10 : Nat) : Int) ∧ ((x.kind / 10 : Nat) : Int) ≤ 9223372036854775807 := by omega
    have q2 : -9223372036854775808 ≤ ((x.tag / 3 : Nat) : Int) ∧ ((x.tag / 3 : Nat) : Int) ≤ 9223372036854775807 := by omega
    have q3 : -9223372036854775808 ≤ ((x.side % 2 : Nat) : Int) ∧ ((x.side % 2 : Nat) : Int) ≤ 9223372036854775807 := by omega
    have q4 : -9223372036854775808 ≤ ((x.kind % 10 : Nat) : Int) ∧ ((x.kind % 10 : Nat) : Int) ≤ 9223372036854775807 := by omega
    have q5 : -9223372036854775808 ≤ ((x.tag % 3 : Nat) : Int) ∧ ((x.tag % 3 : Nat) : Int) ≤ 9223372036854775807 := by omega
    have q6 : -9223372036854775808 ≤ ((x.side % 8 : Nat) : Int) ∧ ((x.side % 8 : Nat) : Int) ≤ 9223372036854775807 := by omega
    have q7 : -9223372036854775808 ≤ (0 : Int) ∧ (0 : Int) ≤ 9223372036854775807 := by omega
    have q8 : ∀ (c d : Prop) [Decidable c] [Decidable d] (a b e : Int), (-9223372036854775808 ≤ a ∧ a ≤ 9223372036854775807) → (-9223372036854775808 ≤ b ∧ b ≤ 9223372036854775807) → (-9223372036854775808 ≤ e ∧ e ≤ 9223372036854775807) → -9223372036854775808 ≤ (if c then a else if d then b else e) ∧ (if c then a else if d then b else e) ≤ 9223372036854775807 := by
      intro c d _ _ a b e h1 h2 h3
      split
      · exact h1
      split
      · exact h2
      · exact h3
    have q9 : ∀ (c : Prop) [Decidable c] (l : Bs), l.length ≤ 94 → (if c then l else ([] : Bs)).length ≤ 94 := by
      intro c _ l h
      split
      · exact h
      · simp
    exact ⟨h1, h2, q9 _ _ h3, q1, q2, q8 _ _ _ _ _ q6 q7 hw, q3, q4, q5⟩
  · simp; omega
theorem event_small {x : ActD} (h : ActOk x) : ESmall (eventE x) := by
  obtain ⟨a1, a2, a3, a4, a5, a6, a7, a8, a9⟩ := base_small h
  have n0 := name0_len h.name
  have n1 := name1_len h.name
  have ht := h.tag
  have g1 := neg64_int a4
  have g2 := neg64_int a5
  have i9 : Int64 9 := by unfold Int64; omega
  have i2 : Int64 2 := by unfold Int64; omega
  have it : Int64 (x.tag : Int) := by unfold Int64; omega
  have b1 : (baseA x).actor.length ≤ 1100000 := by omega
  have b2 : (baseA x).chan.length ≤ 1100000 := by omega
  have b3 : (baseA x).name.length ≤ 1100000 := by omega
  unfold eventE oddE
  split
  · exact ⟨b1, b2, b3, ⟨a4, a5, i9⟩, a7, a8, a9⟩
  split
  · exact ⟨b1, b2, b3, ⟨a4, a5, a6⟩, i2, a8, a9⟩
  split
  · exact ⟨b1, b2, Nat.le_trans n0 (by omega), ⟨a4, a5, a6⟩, a7, a8, a9⟩
  split
  · exact ⟨b1, Nat.le_trans n1 (by omega), b3, ⟨a4, a5, a6⟩, a7, a8, a9⟩
  split
  · exact ⟨by show ((baseA x).actor ++ [46]).length ≤ _; rw [List.length_append, List.length_singleton]; omega, b2, b3, ⟨a4, a5, a6⟩, a7, a8, a9⟩
  split
  · exact ⟨b1, b2, b3, ⟨a4, a5, a6⟩, a7, a8, it⟩
  split
  · exact ⟨b1, b2, b3, ⟨g1, a5, a6⟩, a7, a8, a9⟩
  split
  · exact ⟨b1, b2, b3, ⟨a4, g2, a6⟩, a7, a8, a9⟩
  · exact ⟨b1, b2, b3, ⟨a4, a5, a6⟩, a7, a8, a9⟩
end
section
open Go.Lib

structure SmE (n : Nat) (e : EventD) : Prop where
  actor : e.actor.length ≤ n
  chan : e.chan.length ≤ n
  name : e.name.length ≤ n
  side : Int64 e.side
end
section
open Go.Lib

theorem tellF_le {f : Fld} {E : EventD} {t : Bs} {n : Nat} (hs : SmE n E) (hw : Int64 E.word) (h : tellF f E = some t) : t.length ≤ n + 30 := by
  have h1 := itoa_len hw
  have h2 := itoa_len hs.side
  have h3 := hs.chan
  have h4 := hs.name
  cases f <;> simp only [tellF] at h
  · cases h; omega
  · split at h
    · cases h; omega
    · cases h
  · split at h
    · cases h; omega
    · cases h
  · split at h
    · cases h; omega
    · cases h
  · split at h
    · cases h; simp; omega
    · cases h
  · split at h
    · cases h; omega
    · cases h
theorem tellR_le {r : RowD} {E : EventD} {ws : List Bs} {n : Nat} (hr : r ∈ rowsD) (hs : SmE n E) (hi : IntsD E) (h : tellR r E = some ws) : ws.length ≤ 6 ∧ (∀ x ∈ ws, x.length ≤ n + 30) := by
  obtain ⟨_, _, _, _, _, _, hsh⟩ := rows_shape r hr
  obtain ⟨hw, hm⟩ := rows_word r hr
  have i1 := itoa_len hi.slot
  have i2 := itoa_len hi.pc
  have ha := hs.actor
  have hh : ∀ x ∈ headW r E, x.length ≤ n + 30 := by
    intro x hx
    unfold headW at hx
    simp only [List.mem_cons, List.not_mem_nil, or_false] at hx
    rcases hx with rfl | rfl | rfl
    · omega
    · simp; omega
    · omega
  unfold tellR at h
  rcases hsh with ⟨hf, h0⟩ | ⟨f, hf, h0⟩ | ⟨g, hf, h0, _⟩
  · rw [hf] at h
    cases h
    exact ⟨by unfold headW; simp, hh⟩
  · rw [hf] at h
    obtain ⟨t, ht, rfl⟩ := Option.map_eq_some_iff.1 h
    have := tellF_le hs hi.word ht
    refine ⟨by unfold headW; simp, fun x hx => ?_⟩
    rcases List.mem_append.1 hx with hx | hx
    · exact hh x hx
    · rw [List.mem_singleton] at hx; subst hx; exact this
  · rw [hf] at h
    cases hp : tellF .place E with
    | none => simp only [hp] at h; cases h
    | some t =>
      cases hg : tellF g E with
      | none => simp only [hp, hg] at h; cases h
      | some u =>
        simp only [hp, hg] at h
        cases h
        have h1 := tellF_le hs hi.word hp
        have h2 := tellF_le hs hi.word hg
        refine ⟨by unfold headW; simp, fun x hx => ?_⟩
        rcases List.mem_append.1 hx with hx | hx
        · exact hh x hx
        · simp only [List.mem_cons, List.not_mem_nil, or_false] at hx
          rcases hx with rfl | rfl | rfl
          · exact h1
          · omega
          · exact h2
theorem text_le {E : EventD} {s : Bs} {n : Nat} (hs : SmE n E) (hi : IntsD E) (h : textD E = some s) : s.length ≤ (n + 31) * 6 := by
  by_cases h0 : E.kind = 0
  · unfold textD at h
    rw [if_pos h0] at h
    split at h
    · cases h
      have := itoa_len hi.slot
      simp [tIdle, wIdle]
      omega
    · cases h
  · obtain ⟨r, w, hr, _, _, hw, _, rfl, _⟩ := text_words h h0
    obtain ⟨h1, h2⟩ := tellR_le hr hs hi hw
    have h3 := joinC_size w (n + 30) h2
    have h4 : (n + 30 + 1) * w.length ≤ (n + 31) * 6 := Nat.mul_le_mul_left _ h1
    omega
theorem event_sm {x : ActD} (h : ActOk x) : SmE 100 (eventE x) := by
  obtain ⟨a1, a2, a3, a4, a5, a6, a7, a8, a9⟩ := base_small h
  have n0 := name0_len h.name
  have n1 := name1_len h.name
  have i2 : Int64 2 := by unfold Int64; omega
  have b1 : (baseA x).actor.length ≤ 100 := by omega
  have b2 : (baseA x).chan.length ≤ 100 := by omega
  have b3 : (baseA x).name.length ≤ 100 := by omega
  unfold eventE oddE
  repeat' split
  · exact ⟨b1, b2, b3, a7⟩
  · exact ⟨b1, b2, b3, i2⟩
  · exact ⟨b1, b2, Nat.le_trans n0 (by omega), a7⟩
  · exact ⟨b1, Nat.le_trans n1 (by omega), b3, a7⟩
  · exact ⟨by show ((baseA x).actor ++ [46]).length ≤ _; rw [List.length_append, List.length_singleton]; omega, b2, b3, a7⟩
  · exact ⟨b1, b2, b3, a7⟩
  · exact ⟨b1, b2, b3, a7⟩
  · exact ⟨b1, b2, b3, a7⟩
  · exact ⟨b1, b2, b3, a7⟩
end
end Go.Proofs.YtpbjblbeepbklaaGreatDoor
