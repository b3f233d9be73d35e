/- The reader's turns, whatever the line's words are. -/
import Derived.Test.YtjnllclpdllceaaGreatDoorSk
namespace Go.Proofs.YtjnllclpdllceaaGreatDoor
set_option linter.unusedSimpArgs false
set_option linter.unusedVariables false
open Go.RowKit Go.Shelf

theorem addTurn_nat {s : ScriptD} {k : Int} (a c : Nat) : addTurn s ⟨k, (a : Nat), (c : Nat)⟩ = addTurn s ⟨k, (a : Int), (c : Int)⟩ := rfl

theorem rturn_any {w0 w : World} {r : Nat} {s : ScriptD} {v wv : Value} {L : List Bs} (h0 : Laid w0) (hb0 : Below w0.heap.size w0 w) (h : RAt w w0.heap.size r 2 s v) (hst : s.turns.length ≤ 4096) (hw : StrSl w wv L) (hL : L ≠ [])
    (hLl : L.length ≤ 900000) (hs : ∀ i, i < L.length → (L[i]?.getD []).length ≤ 1000000) :
    Calls Tryz.prog 75 #[.pointer (some ⟨r, 0, none⟩), wv] w (RPostV w w0.heap.size r 2 v (turnS s L)) := by
  rcases hw with ⟨rfl, _⟩ | ⟨b, o, cap, rfl, hcap, hc⟩
  · exact absurd rfl hL
  · obtain ⟨k, A, rfl⟩ : ∃ k A, L = k :: A := by
      cases L with
      | nil => exact absurd rfl hL
      | cons k A => exact ⟨k, A, rfl⟩
    have hA : A.length ≤ 900000 := by simp at hLl; omega
    have hsA : ∀ i, i < A.length → (A[i]?.getD []).length ≤ 1000000 := fun i hi => hs (i + 1) (by simp; omega)
    have hn : (k :: A).length = A.length + 1 := rfl
    have key : ∀ X, turnS s (k :: A) = X → Calls Tryz.prog 75 #[.pointer (some ⟨r, 0, none⟩), .slice (some ⟨b, o, none⟩) (k :: A).length cap] w (RPostV w w0.heap.size r 2 v X) → Calls Tryz.prog 75 #[.pointer (some ⟨r, 0, none⟩), .slice (some ⟨b, o, none⟩) (k :: A).length cap] w (RPostV w w0.heap.size r 2 v (turnS s (k :: A))) := fun X e c => by rw [e]; exact c
    cases hN : numsL A with
    | none =>
      refine key (.error 5) (by unfold turnS; simp only [hN]) ?_
      have hx : (numsL A).isSome = false := by rw [hN]; rfl
      by_cases k0 : k = wPick
      · subst k0; exact rturn_none0 h0 hb0 h hst hn hc hcap hA hsA hx
      by_cases k1 : k = wRound
      · subst k1; exact rturn_none1 h0 hb0 h hst hn hc hcap hA hsA hx
      by_cases k2 : k = wShow
      · subst k2; exact rturn_none2 h0 hb0 h hst hn hc hcap hA hsA hx
      by_cases k3 : k = wRows
      · subst k3; exact rturn_none3 h0 hb0 h hst hn hc hcap hA hsA hx
      exact rturn_other h0 hb0 h hst hn hc hcap hA hsA hx k0 k1 k2 k3
    | some M =>
      have hx : (numsL A).isSome = true := by rw [hN]; rfl
      by_cases k0 : k = wPick
      · subst k0
        match M, hN with
        | [], hN => exact key (.error 5) (by unfold turnS; simp only [hN]; rfl) (rturn_0_0 h0 hb0 h hst hn hc hcap hA hsA hN)
        | [a], hN => exact key (.error 5) (by unfold turnS; simp only [hN]; rfl) (rturn_0_1 h0 hb0 h hst hn hc hcap hA hsA hN)
        | [a, c], hN => exact key _ (by unfold turnS; simp only [hN]; rfl) (rturn_0_2 h0 hb0 h hst hn hc hcap hA hsA hN)
        | a :: c :: d :: M', hN => exact key (.error 5) (by unfold turnS; simp only [hN]; rfl) (rturn_0_long h0 hb0 h hst hn hc hcap hA hsA hN (by simp))
      by_cases k1 : k = wRound
      · subst k1
        match M, hN with
        | [], hN => exact key (.error 5) (by unfold turnS; simp only [hN]; rfl) (rturn_1_0 h0 hb0 h hst hn hc hcap hA hsA hN)
        | [c], hN => exact key _ (by unfold turnS; simp only [hN]; rfl) (rturn_1_1 h0 hb0 h hst hn hc hcap hA hsA hN)
        | c :: d :: M', hN => exact key (.error 5) (by unfold turnS; simp only [hN]; rfl) (rturn_1_long h0 hb0 h hst hn hc hcap hA hsA hN (by simp))
      by_cases k2 : k = wShow
      · subst k2
        match M, hN with
        | [], hN => exact key _ (by unfold turnS; simp only [hN]; rfl) (rturn_2_0 h0 hb0 h hst hn hc hcap hA hsA hN)
        | d :: M', hN => exact key (.error 5) (by unfold turnS; simp only [hN]; rfl) (rturn_2_long h0 hb0 h hst hn hc hcap hA hsA hN (by simp))
      by_cases k3 : k = wRows
      · subst k3
        match M, hN with
        | [], hN => exact key _ (by unfold turnS; simp only [hN]; rfl) (rturn_3_0 h0 hb0 h hst hn hc hcap hA hsA hN)
        | d :: M', hN => exact key (.error 5) (by unfold turnS; simp only [hN]; rfl) (rturn_3_long h0 hb0 h hst hn hc hcap hA hsA hN (by simp))
      exact key (.error 5) (by unfold turnS; simp only [hN, if_neg k0, if_neg k1, if_neg k2, if_neg k3]) (rturn_other h0 hb0 h hst hn hc hcap hA hsA hx k0 k1 k2 k3)
end Go.Proofs.YtjnllclpdllceaaGreatDoor
