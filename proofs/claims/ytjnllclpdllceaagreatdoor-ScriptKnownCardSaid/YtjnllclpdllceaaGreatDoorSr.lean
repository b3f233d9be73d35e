/- Plain lists: a text as its lines; what is read of them. -/
import Derived.Test.YtjnllclpdllceaaGreatDoorSq
namespace Go.Proofs.YtjnllclpdllceaaGreatDoor
set_option linter.unusedSimpArgs false
set_option linter.unusedVariables false
open Go.Lib

/-- Lines as a text. -/
def flat : List Bs → Bs
  | [] => []
  | l :: r => l ++ 10 :: flat r

theorem flat_append : ∀ a b, flat (a ++ b) = flat a ++ flat b
  | [], b => by simp [flat]
  | l :: r, b => by simp [flat, flat_append r b]

theorem flat_shift : ∀ (l : Bs) (r : List Bs), l ++ (r.flatMap fun x => 10 :: x) ++ [10] = flat (l :: r)
  | l, [] => by simp [flat]
  | l, x :: r => by
    have := flat_shift x r
    simp only [flat, List.flatMap_cons, List.append_assoc, List.cons_append] at this ⊢
    rw [this]

/-- What is read of lines. -/
def foldS : List Bs → Nat → Nat → ScriptD → Except (Int × Nat) (Nat × ScriptD)
  | [], _, ph, s => .ok (ph, s)
  | l :: r, at_, ph, s => match stepS ph s (spW l) with
    | .error e => .error (e, at_)
    | .ok p => foldS r (at_ + 1) p.1 p.2

def NoNl (l : Bs) : Prop := ∀ c ∈ l, c ≠ 10

theorem parseGo_nil (at_ ph s) : parseGo [] at_ ph s = .ok s := by rw [parseGo]; simp
theorem parseGo_line (l rest : Bs) (hl : NoNl l) (at_ ph s) : parseGo (l ++ 10 :: rest) at_ ph s = match stepS ph s (spW l) with
    | .error e => .error (e, at_)
    | .ok p => parseGo rest (at_ + 1) p.1 p.2 := by
  rw [parseGo, if_neg (by simp)]
  split
  · rename_i h; rw [cutL_line l rest hl] at h; cases h
  · rename_i a b h
    rw [cutL_line l rest hl] at h
    cases h
    cases stepS ph s (spW l) <;> rfl

theorem cutL_none : ∀ {l : Bs}, NoNl l → cutL l = none
  | [], _ => rfl
  | x :: r, h => by
    have hx : x ≠ 10 := h x (List.mem_cons_self)
    rw [cutL, if_neg hx, cutL_none (fun c hc => h c (List.mem_cons_of_mem _ hc))]
    rfl

theorem parseGo_end {l : Bs} (hl : NoNl l) (hne : l ≠ []) (at_ ph s) : parseGo l at_ ph s = .error (5, at_) := by
  rw [parseGo, if_neg hne]
  split
  · rfl
  · rename_i h; rw [cutL_none hl] at h; cases h

/-- A text of lines, and what stands behind the last one's end. -/
theorem parseGo_flat : ∀ (ls : List Bs) (hl : ∀ l ∈ ls, NoNl l) (rest : Bs) (at_ ph s), parseGo (flat ls ++ rest) at_ ph s = match foldS ls at_ ph s with
    | .error e => .error e
    | .ok p => parseGo rest (at_ + ls.length) p.1 p.2
  | [], _, rest, at_, ph, s => by simp [flat, foldS]
  | l :: r, hl, rest, at_, ph, s => by
    rw [flat, List.append_assoc, List.cons_append, parseGo_line l _ (hl l (List.mem_cons_self)), foldS]
    cases h : stepS ph s (spW l) with
    | error e => rfl
    | ok p =>
      simp only
      rw [parseGo_flat r (fun x hx => hl x (List.mem_cons_of_mem _ hx))]
      rw [show at_ + 1 + r.length = at_ + (l :: r).length by simp; omega]

/-- Each text: lines, and what stands behind the last one's end. -/
theorem lines_of : ∀ (n : Nat) (t : Bs), t.length ≤ n → ∃ ls rest, t = flat ls ++ rest ∧ (∀ l ∈ ls, NoNl l) ∧ NoNl rest
  | 0, t, h => ⟨[], [], by cases t with | nil => rfl | cons => simp at h, by simp, by intro c hc; simp at hc⟩
  | n + 1, t, h => by
    cases hc : cutL t with
    | none =>
      refine ⟨[], t, rfl, by simp, ?_⟩
      have key : ∀ t : Bs, cutL t = none → NoNl t := by
        intro t
        induction t with
        | nil => intro _ c hc; simp at hc
        | cons x r ih =>
          intro hn c hc
          unfold cutL at hn
          split at hn
          · cases hn
          · rename_i hx
            rcases List.mem_cons.1 hc with rfl | hc
            · exact hx
            · refine ih ?_ c hc
              cases hr : cutL r with
              | none => rfl
              | some p => rw [hr] at hn; simp at hn
      exact key t hc
    | some p =>
      obtain ⟨h1, h2⟩ := cutL_some (a := p.1) (b := p.2) hc
      obtain ⟨ls, rest, h3, h4, h5⟩ := lines_of n p.2 (by have := cutL_short (a := p.1) (b := p.2) hc; omega)
      refine ⟨p.1 :: ls, rest, ?_, ?_, h5⟩
      · rw [h1, h3]; simp [flat]
      · intro l hl
        rcases List.mem_cons.1 hl with rfl | hl
        · exact h2
        · exact h4 l hl

/-- What is read: lines all. -/
theorem parseD_ok {t : Bs} {s : ScriptD} (h : parseD t = .ok s) : ∃ ls ph, t = flat ls ∧ ls ≠ [] ∧ (∀ l ∈ ls, NoNl l) ∧ foldS ls 0 0 zeroS = .ok (ph, s) := by
  unfold parseD at h
  split at h
  · cases h
  · rename_i hne
    obtain ⟨ls, rest, h1, h2, h3⟩ := lines_of _ t (Nat.le_refl _)
    rw [h1, parseGo_flat ls h2] at h
    cases hf : foldS ls 0 0 zeroS with
    | error e => rw [hf] at h; cases h
    | ok p =>
      rw [hf] at h
      simp only at h
      by_cases hr : rest = []
      · subst hr
        rw [parseGo_nil] at h
        cases h
        refine ⟨ls, p.1, by simpa using h1, ?_, h2, hf⟩
        rintro rfl
        exact hne (by simpa [flat] using h1)
      · rw [parseGo_end h3 hr] at h; cases h

theorem parseD_flat {ls : List Bs} (hl : ∀ l ∈ ls, NoNl l) (hne : ls ≠ []) {p : Nat × ScriptD} (hf : foldS ls 0 0 zeroS = .ok p) : parseD (flat ls) = .ok p.2 := by
  unfold parseD
  rw [if_neg (by cases ls with | nil => exact absurd rfl hne | cons => simp [flat])]
  have := parseGo_flat ls hl [] 0 0 zeroS
  rw [List.append_nil, hf] at this
  rw [this]
  simp only [parseGo_nil]

theorem parseD_cut {ls : List Bs} (hl : ∀ l ∈ ls, NoNl l) {rest : Bs} (hr : NoNl rest) (hne : rest ≠ []) {p : Nat × ScriptD} (hf : foldS ls 0 0 zeroS = .ok p) : parseD (flat ls ++ rest) = .error (5, ls.length) := by
  unfold parseD
  rw [if_neg (by cases rest with | nil => exact absurd rfl hne | cons => simp)]
  rw [parseGo_flat ls hl rest 0 0 zeroS, hf]
  simp only [parseGo_end hr hne, Nat.zero_add]

theorem foldS_append : ∀ (a b : List Bs) (at_ ph s), foldS (a ++ b) at_ ph s = match foldS a at_ ph s with
    | .error e => .error e
    | .ok p => foldS b (at_ + a.length) p.1 p.2
  | [], b, at_, ph, s => by simp [foldS]
  | l :: r, b, at_, ph, s => by
    rw [List.cons_append, foldS, foldS]
    cases h : stepS ph s (spW l) with
    | error e => rfl
    | ok p =>
      simp only
      rw [foldS_append r b, show at_ + 1 + r.length = at_ + (l :: r).length by simp; omega]

theorem foldS_take {ls : List Bs} {p at_ ph s} (h : foldS ls at_ ph s = .ok p) (k : Nat) : ∃ q, foldS (ls.take k) at_ ph s = .ok q := by
  rw [← List.take_append_drop k ls, foldS_append] at h
  cases hf : foldS (ls.take k) at_ ph s with
  | error e => rw [hf] at h; cases h
  | ok q => exact ⟨q, rfl⟩
end Go.Proofs.YtjnllclpdllceaaGreatDoor
