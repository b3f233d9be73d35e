/- Channels: what the methods make of what waits: plain lists. -/
import Derived.Test.YtjnekmdocbmofaaRk
namespace Go.Proofs.Ytjnekmdocbmofaa
set_option linter.unusedSimpArgs false
set_option linter.unusedVariables false
open Go.RowKit Go.Shelf

/-- What a side of a slot sent that was not taken. -/
def wt (cs : List (Option Ch)) (i : Nat) (s : Bool) : List Int := match cs[i]? with
  | some (some c) => c.l s
  | _ => []

/-- The number of an end. -/
def hd (i : Nat) (s : Bool) : Nat := 2 * i + zOf s

theorem hd_split (h : Nat) : h = hd (h / 2) (decide (h % 2 = 1)) := by
  unfold hd zOf
  by_cases e : h % 2 = 1
  · simp only [e, decide_true, if_true]; omega
  · simp only [e, decide_false, Bool.false_eq_true, if_false]; omega

theorem hd_cast (i : Nat) (s : Bool) : ((hd i s : Nat) : Int) = 2 * (i : Int) + (if s then 1 else 0) := by
  unfold hd zOf; cases s <;> simp

theorem hd_inj {i j : Nat} {s r : Bool} (h : hd i s = hd j r) : i = j ∧ s = r := by
  unfold hd zOf at h
  cases s <;> cases r <;> simp at h <;> (first | exact ⟨by omega, rfl⟩ | omega)

theorem sideOf_hd {cs : List (Option Ch)} {i : Nat} {s : Bool} {c : Ch} (h : cs[i]? = some (some c)) : sideOf cs (hd i s : Nat) = some (i, s, c) := by
  rw [hd_cast]; exact sideOf_mk h

theorem sideOf_hd_none {cs : List (Option Ch)} {i : Nat} {s : Bool} (h : ∀ c, cs[i]? ≠ some (some c)) : sideOf cs (hd i s : Nat) = none := by
  cases hs : sideOf cs (hd i s : Nat) with
  | none => rfl
  | some x =>
    obtain ⟨j, r, c⟩ := x
    obtain ⟨h1, h2, h3⟩ := sideOf_some hs
    rw [← hd_cast] at h3
    obtain ⟨rfl, rfl⟩ := hd_inj (by omega : hd i s = hd j r)
    exact absurd h2 (h c)

theorem waitA_hd (cs : List (Option Ch)) (i : Nat) (s : Bool) : waitA cs (hd i s : Nat) = wt cs i s := by
  unfold waitA wt
  cases hc : cs[i]? with
  | none => rw [sideOf_hd_none (fun c => by rw [hc]; simp)]
  | some o =>
    cases o with
    | none => rw [sideOf_hd_none (fun c => by rw [hc]; simp)]
    | some c => rw [sideOf_hd hc]

theorem wt_set {cs : List (Option Ch)} {i : Nat} (hi : i < cs.length) (o : Option Ch) (j : Nat) (r : Bool) :
    wt (cs.set i o) j r = if j = i then (match o with | some c => c.l r | none => []) else wt cs j r := by
  unfold wt
  rw [List.getElem?_set]
  by_cases h : i = j
  · subst h
    simp only [if_true, hi]
    cases o <;> rfl
  · have h2 : ¬ j = i := fun e => h e.symm
    simp only [h, h2, if_false]

theorem get_some_lt {cs : List (Option Ch)} {i : Nat} {o : Option Ch} (h : cs[i]? = some o) : i < cs.length := (List.getElem?_eq_some_iff.1 h).1

theorem wt_some {cs : List (Option Ch)} {i : Nat} {c : Ch} (h : cs[i]? = some (some c)) (s : Bool) : wt cs i s = c.l s := by unfold wt; rw [h]

/-- Put's answer, and what waits then. -/
theorem putT_no {cs m} {e x z : Int} {cs'} (hz : putT cs m e x = (z, cs')) (h : canPutA cs m e = false) (hle : ∀ i s c, sideOf cs e = some (i, s, c) → (c.l s).length ≤ m) : z ≠ 0 ∧ cs' = cs := by
  unfold putT at hz
  unfold canPutA at h
  cases hs : sideOf cs e with
  | none => rw [hs] at hz; cases hz; exact ⟨by decide, rfl⟩
  | some y =>
    obtain ⟨i, s, c⟩ := y
    have hl := hle i s c hs
    rw [hs] at hz h
    simp only at hz h
    split at hz
    · rename_i ho
      rw [ho] at h
      simp only [Bool.true_and, decide_eq_false_iff_not] at h
      rw [if_pos (by omega)] at hz
      cases hz; exact ⟨by decide, rfl⟩
    · cases hz; exact ⟨by decide, rfl⟩
theorem putT_yes {cs m} {i : Nat} {s : Bool} {x z : Int} {cs'} (hz : putT cs m (hd i s : Nat) x = (z, cs')) (h : canPutA cs m (hd i s : Nat) = true) : z = 0 ∧ ∀ j r, wt cs' j r = if j = i ∧ r = s then wt cs i s ++ [x] else wt cs j r := by
  unfold putT at hz
  unfold canPutA at h
  cases hs : sideOf cs (hd i s : Nat) with
  | none => rw [hs] at h; cases h
  | some y =>
    obtain ⟨i', s', c⟩ := y
    obtain ⟨h1, h2, h3⟩ := sideOf_some hs
    rw [← hd_cast] at h3
    obtain ⟨rfl, rfl⟩ := hd_inj (by omega : hd i s = hd i' s')
    rw [hs] at hz h
    simp only [Bool.and_eq_true, decide_eq_true_eq] at hz h
    rw [if_pos h.1, if_neg (by omega)] at hz
    cases hz
    refine ⟨rfl, fun j r => ?_⟩
    rw [wt_set h1]
    by_cases hj : j = i
    · subst hj
      simp only [if_true, true_and, Ch.setl_l, wt_some h2]
    · simp only [hj, if_false, false_and]

theorem takeT_no {cs} {e x z : Int} {cs'} (hz : takeT cs e = (x, z, cs')) (h : canTakeA cs e = false) : z ≠ 0 ∧ x = 0 ∧ cs' = cs := by
  unfold takeT at hz
  unfold canTakeA at h
  cases hs : sideOf cs e with
  | none => rw [hs] at hz; cases hz; exact ⟨by decide, rfl, rfl⟩
  | some y =>
    obtain ⟨i, s, c⟩ := y
    rw [hs] at hz h
    simp only at hz h
    split at hz
    · rename_i ho
      rw [ho] at h
      simp only [Bool.true_and, decide_eq_false_iff_not] at h
      split at hz
      · cases hz; exact ⟨by decide, rfl, rfl⟩
      · rename_i hl; rw [hl] at h; simp at h
    · cases hz; exact ⟨by decide, rfl, rfl⟩
theorem takeT_yes {cs} {i : Nat} {s : Bool} {x z : Int} {cs'} (hz : takeT cs (hd i s : Nat) = (x, z, cs')) (h : canTakeA cs (hd i s : Nat) = true) : z = 0 ∧ wt cs i (!s) = x :: wt cs' i (!s) ∧ ∀ j r, ¬ (j = i ∧ r = !s) → wt cs' j r = wt cs j r := by
  unfold takeT at hz
  unfold canTakeA at h
  cases hs : sideOf cs (hd i s : Nat) with
  | none => rw [hs] at h; cases h
  | some y =>
    obtain ⟨i', s', c⟩ := y
    obtain ⟨h1, h2, h3⟩ := sideOf_some hs
    rw [← hd_cast] at h3
    obtain ⟨rfl, rfl⟩ := hd_inj (by omega : hd i s = hd i' s')
    rw [hs] at hz h
    simp only [Bool.and_eq_true, decide_eq_true_eq] at hz h
    rw [if_pos h.1] at hz
    split at hz
    · rename_i hl; rw [hl] at h; simp at h
    · rename_i a L hl
      cases hz
      refine ⟨rfl, ?_, fun j r hn => ?_⟩
      · rw [wt_some h2, hl, wt_set h1]; simp [Ch.setl_l]
      · rw [wt_set h1]
        by_cases hj : j = i
        · subst hj
          simp only [true_and] at hn
          simp only [if_true, Ch.setl_l, hn, if_false, wt_some h2]
        · simp only [hj, if_false]

theorem openA_hd (cs : List (Option Ch)) (i : Nat) (s : Bool) : openA cs (hd i s : Nat) = match cs[i]? with | some (some c) => c.o s | _ => false := by
  unfold openA
  cases hc : cs[i]? with
  | none => rw [sideOf_hd_none (fun c => by rw [hc]; simp)]
  | some o =>
    cases o with
    | none => rw [sideOf_hd_none (fun c => by rw [hc]; simp)]
    | some c => rw [sideOf_hd hc]

theorem Ch.shut_l (c : Ch) (s r : Bool) : (c.shut s).l r = c.l r := by cases s <;> cases r <;> rfl
theorem Ch.shut_o (c : Ch) (s r : Bool) : (c.shut s).o r = if r = s then false else c.o r := by cases s <;> cases r <;> rfl

theorem get_set {cs : List (Option Ch)} {i : Nat} (hi : i < cs.length) (o : Option Ch) (j : Nat) : (cs.set i o)[j]? = if j = i then some o else cs[j]? := by
  rw [List.getElem?_set]
  by_cases h : i = j
  · subst h; simp [hi]
  · have h2 : ¬ j = i := fun e => h e.symm
    simp [h, h2]

/-- Close's answer, who is open then, and what waits. -/
theorem closeT_no {cs} {e z : Int} {cs'} (hz : closeT cs e = (z, cs')) (h : openA cs e = false) : z ≠ 0 ∧ cs' = cs := by
  unfold closeT at hz
  unfold openA at h
  cases hs : sideOf cs e with
  | none => rw [hs] at hz; cases hz; exact ⟨by decide, rfl⟩
  | some y =>
    obtain ⟨i, s, c⟩ := y
    rw [hs] at hz h
    simp only at hz h
    rw [h] at hz
    cases hz; exact ⟨by decide, rfl⟩
theorem closeT_half {cs} {i : Nat} {s : Bool} {z : Int} {cs'} (hz : closeT cs (hd i s : Nat) = (z, cs')) (h : openA cs (hd i s : Nat) = true) (h2 : openA cs (hd i (!s) : Nat) = true) :
    z = 0 ∧ openA cs' (hd i s : Nat) = false ∧ openA cs' (hd i (!s) : Nat) = true ∧ ∀ j r, wt cs' j r = wt cs j r := by
  rw [openA_hd] at h h2
  unfold closeT at hz
  cases hc : cs[i]? with
  | none => rw [hc] at h; cases h
  | some o =>
    cases o with
    | none => rw [hc] at h; cases h
    | some c =>
      rw [hc] at h h2
      simp only at h h2
      rw [sideOf_hd hc] at hz
      simp only [h, h2, if_true] at hz
      have hi := get_some_lt hc
      cases hz
      refine ⟨rfl, ?_, ?_, fun j r => ?_⟩
      · rw [openA_hd, get_set hi]; simp [Ch.shut_o]
      · rw [openA_hd, get_set hi]; cases s <;> simp [Ch.shut_o] <;> exact h2
      · rw [wt_set hi]
        by_cases hj : j = i
        · subst hj; simp [Ch.shut_l, wt_some hc]
        · simp [hj]

theorem liveA_set {cs : List (Option Ch)} {i : Nat} {o : Option Ch} (h : cs[i]? = some o) (o' : Option Ch) : liveA (cs.set i o') + (if o.isSome then 1 else 0) = liveA cs + (if o'.isSome then 1 else 0) := by
  induction cs generalizing i with
  | nil => simp at h
  | cons a l ih =>
    cases i with
    | zero =>
      simp only [List.getElem?_cons_zero, Option.some.injEq] at h
      subst h
      simp only [List.set_cons_zero]
      unfold liveA
      cases a <;> cases o' <;> simp
    | succ i =>
      simp only [List.getElem?_cons_succ] at h
      have := ih h
      simp only [List.set_cons_succ]
      unfold liveA at this ⊢
      cases a <;> simp at this ⊢ <;> omega

theorem closeT_last {cs} {i : Nat} {s : Bool} {z : Int} {cs'} (hz : closeT cs (hd i s : Nat) = (z, cs')) (h : openA cs (hd i s : Nat) = true) (h2 : openA cs (hd i (!s) : Nat) = false) :
    z = 0 ∧ openA cs' (hd i s : Nat) = false ∧ openA cs' (hd i (!s) : Nat) = false ∧ liveA cs' + 1 = liveA cs ∧ (∀ r, wt cs' i r = []) ∧ ∀ j r, j ≠ i → wt cs' j r = wt cs j r := by
  rw [openA_hd] at h h2
  unfold closeT at hz
  cases hc : cs[i]? with
  | none => rw [hc] at h; cases h
  | some o =>
    cases o with
    | none => rw [hc] at h; cases h
    | some c =>
      rw [hc] at h h2
      simp only at h h2
      rw [sideOf_hd hc] at hz
      simp only [h, h2, if_true, Bool.false_eq_true, if_false] at hz
      have hi := get_some_lt hc
      cases hz
      refine ⟨rfl, ?_, ?_, ?_, fun r => ?_, fun j r hj => ?_⟩
      · rw [openA_hd, get_set hi]; simp
      · rw [openA_hd, get_set hi]; simp
      · have := liveA_set hc none; simpa using this
      · rw [wt_set hi]; simp
      · rw [wt_set hi]; simp [hj]

theorem liveA_full {cs : List (Option Ch)} (h : free cs = none) : liveA cs = cs.length := by
  unfold free at h
  rw [List.findIdx?_eq_none_iff] at h
  unfold liveA
  rw [List.filter_eq_self.2 (fun x hx => by have := h x hx; cases x <;> simp at this ⊢)]
theorem free_get {cs : List (Option Ch)} {i} (h : free cs = some i) : cs[i]? = some none := by
  unfold free at h
  obtain ⟨h1, h2, _⟩ := List.findIdx?_eq_some_iff_getElem.1 h
  rw [List.getElem?_eq_getElem h1]
  cases hc : cs[i] with
  | none => rfl
  | some c => rw [hc] at h2; simp at h2

/-- Make's answer. -/
theorem makeT_no {cs b} {i z : Int} {cs'} (hz : makeT cs b = (i, z, cs')) (h : ¬ liveA cs < cs.length) : z ≠ 0 ∧ cs' = cs := by
  unfold makeT at hz
  cases hf : free cs with
  | none => rw [hf] at hz; cases hz; exact ⟨by decide, rfl⟩
  | some j =>
    have hg := free_get hf
    have h1 := liveA_set hg (some ⟨0, true, true, [], []⟩)
    have h2 := liveA_le (cs.set j (some ⟨0, true, true, [], []⟩))
    rw [List.length_set] at h2
    simp at h1
    omega
theorem makeT_yes {cs b} {i z : Int} {cs'} (hz : makeT cs b = (i, z, cs')) (h : liveA cs < cs.length) : z = 0 ∧ ∃ j : Nat, i = j ∧ j < cs.length ∧ liveA cs' = liveA cs + 1 ∧ openA cs' (hd j false : Nat) = true ∧ openA cs' (hd j true : Nat) = true ∧ (∀ r, wt cs' j r = []) ∧ ∀ k r, k ≠ j → wt cs' k r = wt cs k r := by
  unfold makeT at hz
  cases hf : free cs with
  | none => have := liveA_full hf; omega
  | some j =>
    rw [hf] at hz
    cases hz
    have hg := free_get hf
    have hj := free_lt hf
    have h1 := liveA_set hg (some ⟨b, true, true, [], []⟩)
    refine ⟨rfl, j, rfl, hj, by simpa using h1, ?_, ?_, fun r => ?_, fun k r hk => ?_⟩
    · rw [openA_hd, get_set hj]; simp [Ch.o]
    · rw [openA_hd, get_set hj]; simp [Ch.o]
    · rw [wt_set hj]; cases r <;> simp [Ch.l]
    · rw [wt_set hj]; simp [hk]
end Go.Proofs.Ytjnekmdocbmofaa
