/- Plain lists: what is read prints as it stood. -/
import Derived.Test.YtjnllclpdllceaaGreatDoorSt
namespace Go.Proofs.YtjnllclpdllceaaGreatDoor
set_option linter.unusedSimpArgs false
set_option linter.unusedVariables false
open Go.Lib

def joinW : List Bs → Bs
  | [] => []
  | [w] => w
  | w :: x :: r => w ++ 32 :: joinW (x :: r)

theorem joinW_spW : ∀ l : Bs, joinW (spW l) = l
  | [] => rfl
  | x :: r => by
    have ih := joinW_spW r
    unfold spW
    cases h : spW r with
    | nil => exact absurd h (spW_ne r)
    | cons w ws =>
      rw [h] at ih
      split
      · rename_i e; subst e; simp only [joinW, List.nil_append, ih]
      · cases ws with
        | nil => simp only [joinW] at ih ⊢; rw [ih]
        | cons y ys => simp only [joinW, List.cons_append] at ih ⊢; rw [ih]

theorem numsL_some : ∀ {ws : List Bs} {l : List Nat}, numsL ws = some l → ws = l.map decDigits
  | [], l, h => by simp only [numsL, Option.some.injEq] at h; subst h; rfl
  | w :: ws, l, h => by
    unfold numsL at h
    cases hn : numL w with
    | none => rw [hn] at h; cases h
    | some n =>
      rw [hn] at h
      cases hw : numsL ws with
      | none => rw [hw] at h; cases h
      | some r =>
        rw [hw] at h
        simp only [Option.map_some, Option.some.injEq] at h
        subst h
        rw [List.map_cons, ← numsL_some hw, (numL_some.1 hn).1]

theorem map_ok {α β : Type} {f : α → β} {x : Except Int α} {y : β} (h : x.map f = .ok y) : ∃ a, x = .ok a ∧ f a = y := by
  cases x with
  | error e => cases h
  | ok a => cases h; exact ⟨a, rfl, rfl⟩

theorem machine_inv {w : List Bs} {s : ScriptD} (h : machineS zeroS w = .ok s) : configOk s.chans s.actors s.cap = true ∧ s.mod = [] ∧ s.turns = [] ∧ joinW w = headT s := by
  unfold machineS at h
  simp only at h
  split at h
  · cases h
  · rename_i k args hv
    split at h
    · rename_i a b c hn
      split at h
      · rename_i hk
        split at h
        · rename_i hc
          cases h
          refine ⟨hc, rfl, rfl, ?_⟩
          have hn := numsL_some hn
          subst hk hn
          unfold headT
          simp only [itoa_nat]
          by_cases htw : w.length = 5 ∧ w[4]? = some wTwin
          · rw [decide_eq_true htw] at hv ⊢
            simp only [if_true] at hv ⊢
            obtain ⟨h5, h4⟩ := htw
            match w, h5 with
            | [w0, w1, w2, w3, w4], _ =>
              simp only [List.take_succ_cons, List.take_zero, List.map_cons, List.map_nil, List.cons.injEq, and_true] at hv
              simp only [List.getElem?_cons_succ, List.getElem?_cons_zero, Option.some.injEq] at h4
              obtain ⟨rfl, rfl, rfl, rfl⟩ := hv
              subst h4
              simp [joinW]
          · rw [decide_eq_false htw] at hv ⊢
            simp only [Bool.false_eq_true, if_false] at hv ⊢
            subst hv
            simp [joinW]
        · cases h
      · cases h
    · cases h

theorem bytes_inv {s s' : ScriptD} {w : List Bs} (h : bytesS s w = .ok s') (hw : w.head? = some wBytes) : ∃ b, s.mod.length % 24 = 0 ∧ b ≠ [] ∧ b.length ≤ 24 ∧ s.mod.length + b.length ≤ 65536 ∧ s' = { s with mod := s.mod ++ b } ∧ joinW w = bytesLine b := by
  unfold bytesS at h
  split at h
  · rename_i k d
    simp only [List.head?_cons, Option.some.injEq] at hw
    subst hw
    split at h
    · cases h
    · rename_i h1
      split at h
      · cases h
      · rename_i b hb
        split at h
        · cases h
        · rename_i h2
          cases h
          have hx := hexL_unhexL d b hb
          have hlen := hexL_length b
          rw [hx] at hlen
          refine ⟨b, by omega, ?_, by omega, by omega, rfl, ?_⟩
          · rintro rfl; simp only [List.length_nil] at hlen; omega
          · unfold bytesLine; rw [hx]; rfl
  · cases h

theorem addTurn_inv {s s' : ScriptD} {t : TurnD} (h : addTurn s t = .ok s') : turnOk t = true ∧ s.turns.length < 4096 ∧ s' = { s with turns := s.turns ++ [t] } := by
  unfold addTurn at h
  split at h
  · cases h
  · rename_i h1
    split at h
    · cases h
    · rename_i h2
      cases h
      exact ⟨by simpa using h1, by omega, rfl⟩

theorem turn_inv {s s' : ScriptD} {w : List Bs} (h : turnS s w = .ok s') : ∃ t, turnOk t = true ∧ s.turns.length < 4096 ∧ s' = { s with turns := s.turns ++ [t] } ∧ joinW w = lineT t := by
  unfold turnS at h
  split at h
  · cases h
  · rename_i k args
    split at h
    · cases h
    · rename_i l hl
      have hl := numsL_some hl
      subst hl
      split at h
      · rename_i hk
        subst hk
        split at h
        · rename_i a b
          obtain ⟨h1, h2, h3⟩ := addTurn_inv h
          exact ⟨_, h1, h2, h3, by simp [lineT, itoa_nat, joinW]⟩
        · cases h
      · split at h
        · rename_i hk
          subst hk
          split at h
          · rename_i b
            obtain ⟨h1, h2, h3⟩ := addTurn_inv h
            exact ⟨_, h1, h2, h3, by simp [lineT, itoa_nat, joinW]⟩
          · cases h
        · split at h
          · rename_i hk
            subst hk
            split at h
            · obtain ⟨h1, h2, h3⟩ := addTurn_inv h
              exact ⟨_, h1, h2, h3, by simp [lineT, joinW]⟩
            · cases h
          · split at h
            · rename_i hk
              subst hk
              split at h
              · obtain ⟨h1, h2, h3⟩ := addTurn_inv h
                exact ⟨_, h1, h2, h3, by simp [lineT, joinW]⟩
              · cases h
            · cases h

/-- What was read so far. -/
structure Seen (ph : Nat) (s : ScriptD) (ls : List Bs) : Prop where
  valid : Valid s
  lines : linesOf s = ls
  none : ph = 1 → s.turns = []
  ph : 1 ≤ ph

theorem step_seen0 {s : ScriptD} {ph : Nat} {l : Bs} (h : stepS 0 zeroS (spW l) = .ok (ph, s)) : Seen ph s [l] := by
  unfold stepS at h
  rw [if_pos rfl] at h
  obtain ⟨x, hx, he⟩ := map_ok h
  cases he
  obtain ⟨h1, h2, h3, h4⟩ := machine_inv hx
  rw [joinW_spW] at h4
  refine ⟨⟨h1, by rw [h3]; simp, by rw [h3]; simp, by rw [h2]; simp⟩, ?_, fun _ => h3, Nat.le_refl _⟩
  unfold linesOf
  rw [h2, h3, chunks]
  simp [h4]

theorem step_seen {s s' : ScriptD} {ph ph' : Nat} {l : Bs} {ls : List Bs} (hs : Seen ph s ls) (h : stepS ph s (spW l) = .ok (ph', s')) : Seen ph' s' (ls ++ [l]) := by
  have hph := hs.ph
  unfold stepS at h
  rw [if_neg (by omega)] at h
  split at h
  · rename_i hb
    obtain ⟨x, hx, he⟩ := map_ok h
    cases he
    obtain ⟨b, h1, h2, h3, h4, rfl, h6⟩ := bytes_inv hx hb.2
    rw [joinW_spW] at h6
    have ht := hs.none hb.1
    refine ⟨⟨hs.valid.config, hs.valid.turns, hs.valid.most, by simp only [List.length_append]; omega⟩, ?_, fun _ => ht, Nat.le_refl _⟩
    have hl := hs.lines
    subst hl
    unfold linesOf
    simp only [ht, chunks_snoc _ s.mod b (Nat.le_refl _) h1 h2 h3, h6]
    simp [headT]
  · obtain ⟨x, hx, he⟩ := map_ok h
    cases he
    obtain ⟨t, h1, h2, rfl, h6⟩ := turn_inv hx
    rw [joinW_spW] at h6
    refine ⟨⟨hs.valid.config, ?_, by simp only [List.length_append, List.length_cons, List.length_nil]; omega, hs.valid.bytes⟩, ?_, fun e => absurd e (by decide), by decide⟩
    · intro x hx
      rcases List.mem_append.1 hx with hx | hx
      · exact hs.valid.turns x hx
      · rw [List.mem_singleton] at hx; subst hx; exact h1
    · have hl := hs.lines
      subst hl
      unfold linesOf
      simp [h6, headT]

theorem fold_seen : ∀ (r ls : List Bs) (at_ ph : Nat) (s : ScriptD) (p : Nat × ScriptD), Seen ph s ls → foldS r at_ ph s = .ok p → Seen p.1 p.2 (ls ++ r)
  | [], ls, at_, ph, s, p, hs, h => by
    simp only [foldS] at h
    cases h
    simpa using hs
  | l :: r, ls, at_, ph, s, p, hs, h => by
    rw [foldS] at h
    cases hst : stepS ph s (spW l) with
    | error e => rw [hst] at h; cases h
    | ok q =>
      rw [hst] at h
      have := fold_seen r (ls ++ [l]) (at_ + 1) q.1 q.2 p (step_seen hs hst) h
      simpa using this

/-- Lines that are read are those of the script. -/
theorem fold_inv {ls : List Bs} {p : Nat × ScriptD} (hne : ls ≠ []) (h : foldS ls 0 0 zeroS = .ok p) : Valid p.2 ∧ linesOf p.2 = ls := by
  cases ls with
  | nil => exact absurd rfl hne
  | cons l r =>
    rw [foldS] at h
    cases hst : stepS 0 zeroS (spW l) with
    | error e => rw [hst] at h; cases h
    | ok q =>
      rw [hst] at h
      have := fold_seen r [l] (0 + 1) q.1 q.2 p (step_seen0 hst) h
      exact ⟨this.valid, this.lines⟩

/-- A text that is read is that of the script. -/
theorem print_parse {t : Bs} {s : ScriptD} (h : parseD t = .ok s) : printD s = (t, 0) := by
  obtain ⟨ls, ph, h1, h2, h3, h4⟩ := parseD_ok h
  obtain ⟨h5, h6⟩ := fold_inv h2 h4
  rw [printD_valid h5, textT_lines, h6, h1]

theorem itoa_nonl {v : Int} (h : 0 ≤ v) : NoNl (itoa v) := by
  obtain ⟨n, rfl⟩ : ∃ n : Nat, v = n := ⟨v.toNat, by omega⟩
  rw [itoa_nat]; exact dec_nonl n

theorem nonl_app {a b : Bs} (ha : NoNl a) (hb : NoNl b) : NoNl (a ++ b) := fun c hc => (List.mem_append.1 hc).elim (ha c) (hb c)
theorem nonl_sp {a : Bs} (ha : NoNl a) : NoNl (32 :: a) := fun c hc => by
  rcases List.mem_cons.1 hc with rfl | hc
  · decide
  · exact ha c hc

theorem head_nonl {s : ScriptD} (h : configOk s.chans s.actors s.cap = true) : NoNl (headT s) := by
  have h := of_decide_eq_true h
  unfold headT
  have hw : NoNl wMachine := by unfold NoNl wMachine; decide
  have ht : NoNl (if s.twin then 32 :: wTwin else []) := by
    split
    · unfold NoNl wTwin; decide
    · intro c hc; simp at hc
  have h1 := itoa_nonl (show 0 ≤ s.chans by omega)
  have h2 := itoa_nonl (show 0 ≤ s.actors by omega)
  have h3 := itoa_nonl (show 0 ≤ s.cap by omega)
  simp only [List.append_assoc, List.cons_append]
  exact nonl_app hw (nonl_sp (nonl_app h1 (nonl_sp (nonl_app h2 (nonl_sp (nonl_app h3 ht))))))

theorem bytes_nonl (b : Bs) : NoNl (bytesLine b) := nonl_app (by unfold NoNl wBytes; decide) (nonl_sp fun c hc => (hexL_plain b c hc).1)

theorem line_nonl {t : TurnD} (h : turnOk t = true) : NoNl (lineT t) := by
  obtain ⟨kind, slot, times⟩ := t
  unfold turnOk at h
  simp only [Bool.or_eq_true, decide_eq_true_eq] at h
  unfold lineT
  simp only
  split
  · simp only [List.append_assoc, List.cons_append]
    exact nonl_app (by unfold NoNl wPick; decide) (nonl_sp (nonl_app (itoa_nonl (by omega)) (nonl_sp (itoa_nonl (by omega)))))
  · split
    · exact nonl_app (by unfold NoNl wRound; decide) (nonl_sp (itoa_nonl (by omega)))
    · split
      · unfold NoNl wShow; decide
      · unfold NoNl wRows; decide

theorem lines_nonl {s : ScriptD} (h : Valid s) : ∀ l ∈ linesOf s, NoNl l := by
  intro l hl
  unfold linesOf at hl
  rcases List.mem_cons.1 hl with rfl | hl
  · exact head_nonl h.config
  · rcases List.mem_append.1 hl with hl | hl
    · obtain ⟨b, _, rfl⟩ := List.mem_map.1 hl
      exact bytes_nonl b
    · obtain ⟨t, ht, rfl⟩ := List.mem_map.1 hl
      exact line_nonl (h.turns t ht)

/-- A script that may be comes back from its text. -/
theorem parse_print {s : ScriptD} {t : Bs} (h : printD s = (t, 0)) : parseD t = .ok s := by
  obtain ⟨hv, rfl⟩ := printD_ok h
  obtain ⟨ph, hf⟩ := fold_lines hv
  rw [textT_lines]
  exact parseD_flat (lines_nonl hv) (by unfold linesOf; simp) hf

/-- How many lines end. -/
def ends (t : Bs) : Nat := (t.filter fun c => c = 10).length

theorem ends_nonl {l : Bs} (h : NoNl l) : ends l = 0 := by
  unfold ends
  rw [List.length_eq_zero_iff, List.filter_eq_nil_iff]
  intro c hc
  simpa using h c hc

theorem ends_flat : ∀ (ls : List Bs), (∀ l ∈ ls, NoNl l) → ends (flat ls) = ls.length
  | [], _ => rfl
  | l :: r, h => by
    have h1 := ends_nonl (h l (List.mem_cons_self))
    have h2 := ends_flat r (fun x hx => h x (List.mem_cons_of_mem _ hx))
    unfold ends at h1 h2 ⊢
    simp only [flat, List.filter_append, List.length_append, List.filter_cons, decide_true, if_true, List.length_cons, h1, h2]
    omega

/-- A cut text: its first lines, and what stands behind the last one's end. -/
theorem flat_cut : ∀ (ls : List Bs) (n : Nat), (∀ l ∈ ls, NoNl l) → ∃ k rest, (flat ls).take n = flat (ls.take k) ++ rest ∧ k ≤ ls.length ∧ NoNl rest
  | [], n, _ => ⟨0, [], by simp [flat], by simp, by intro c hc; simp at hc⟩
  | l :: r, n, h => by
    by_cases hn : n ≤ l.length
    · refine ⟨0, l.take n, ?_, by simp, fun c hc => h l (List.mem_cons_self) c (List.mem_of_mem_take hc)⟩
      rw [flat, List.take_append_of_le_length hn]
      simp [flat]
    · obtain ⟨m, hm⟩ : ∃ m, n = l.length + (m + 1) := ⟨n - l.length - 1, by omega⟩
      obtain ⟨k, rest, h1, h2, h3⟩ := flat_cut r m (fun x hx => h x (List.mem_cons_of_mem _ hx))
      refine ⟨k + 1, rest, ?_, by simp; omega, h3⟩
      rw [flat, hm, List.take_length_add_append, List.take_succ_cons, h1]
      simp [flat]

/-- A cut text. -/
theorem cut_law {s : ScriptD} (hv : Valid s) (n : Nat) :
    (∃ u, parseD ((textT s).take n) = .ok u ∧ (textT s).take n ≠ [] ∧ ((textT s).take n).getLast? = some 10 ∧ printD u = ((textT s).take n, 0)) ∨
    (parseD ((textT s).take n) = .error (5, ends ((textT s).take n)) ∧ ((textT s).take n = [] ∨ ((textT s).take n).getLast? ≠ some 10)) := by
  obtain ⟨ph, hf⟩ := fold_lines hv
  have hl := lines_nonl hv
  obtain ⟨k, rest, h1, h2, h3⟩ := flat_cut (linesOf s) n hl
  have hl' : ∀ l ∈ (linesOf s).take k, NoNl l := fun l hx => hl l (List.mem_of_mem_take hx)
  obtain ⟨q, hq⟩ := foldS_take hf k
  rw [textT_lines, h1]
  by_cases hr : rest = []
  · subst hr
    rw [List.append_nil]
    by_cases hk : (linesOf s).take k = []
    · right
      rw [hk]
      exact ⟨rfl, .inl rfl⟩
    · left
      have hp := parseD_flat hl' hk hq
      refine ⟨q.2, hp, ?_, ?_, print_parse hp⟩
      · cases h : (linesOf s).take k with
        | nil => exact absurd h hk
        | cons => simp [flat]
      · have key : ∀ ls : List Bs, ls ≠ [] → (flat ls).getLast? = some 10 := by
          intro ls
          induction ls with
          | nil => intro h; exact absurd rfl h
          | cons l r ih =>
            intro _
            cases r with
            | nil => simp [flat]
            | cons y ys =>
              have := ih (by simp)
              rw [flat, List.getLast?_append, List.getLast?_cons, this]
              simp
        exact key _ hk
  · right
    refine ⟨?_, .inr ?_⟩
    · rw [parseD_cut hl' h3 hr hq]
      congr 2
      have e1 := ends_flat _ hl'
      have e2 := ends_nonl h3
      unfold ends at e1 e2 ⊢
      rw [List.filter_append, List.length_append, e1, e2]
      rfl
    · rw [List.getLast?_append]
      cases hx : rest.getLast? with
      | none => exact absurd (List.getLast?_eq_none_iff.1 hx) hr
      | some c =>
        simp only [Option.some_or, ne_eq, Option.some.injEq]
        exact h3 c (List.mem_of_getLast? hx)
end Go.Proofs.YtjnllclpdllceaaGreatDoor
