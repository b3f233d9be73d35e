/- The text of a drafted script is short. -/
import Derived.Test.YtjnllclpdllceaaGreatDoorVe
namespace Go.Proofs.YtjnllclpdllceaaGreatDoor
set_option linter.unusedSimpArgs false
set_option linter.unusedVariables false
open Go.RowKit Go.Shelf

theorem bytesT_short : ∀ (m : Bs) (i : Nat), (bytesT i m).length ≤ 9 * m.length
  | [], i => by simp [bytesT]
  | b :: r, i => by
    have ih := bytesT_short r (i + 1)
    simp only [bytesT, List.length_append, List.length_cons, hx2, List.length_nil]
    split <;> simp [wBytes] <;> omega

theorem headT_short {s : ScriptD} (h : configOk s.chans s.actors s.cap = true) : (headT s).length ≤ 100 := by
  obtain ⟨h1, h2, h3⟩ := configOk_le h
  have i1 : (Lib.itoa s.chans).length ≤ 9 := itoa_short (by omega) (by omega)
  have i2 : (Lib.itoa s.actors).length ≤ 9 := itoa_short (by omega) (by omega)
  have i3 : (Lib.itoa s.cap).length ≤ 9 := itoa_short (by omega) (by omega)
  unfold headT
  split <;> simp [wMachine, wTwin] <;> omega

theorem text_short {s : ScriptD} (h : Valid s) (hm : s.mod.length ≤ 3000) (ht : s.turns.length ≤ 101) : (textT s).length ≤ 40000 := by
  have b := bytesT_short s.mod 0
  have d := headT_short h.config
  have l := lines_len (ts := s.turns) (fun k hk => h.turns _ (List.getElem_mem hk)) s.turns.length
  rw [List.take_of_length_le (Nat.le_refl _)] at l
  unfold textT
  simp only [List.length_append, List.length_cons, List.length_nil]
  omega
end Go.Proofs.YtjnllclpdllceaaGreatDoor
