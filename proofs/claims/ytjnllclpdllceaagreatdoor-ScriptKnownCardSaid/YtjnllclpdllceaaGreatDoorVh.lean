/- same: two scripts compared: what is alike. -/
import Derived.Test.YtjnllclpdllceaaGreatDoorVd
import Derived.BigQuiet
namespace Go.Proofs.YtjnllclpdllceaaGreatDoor
set_option linter.unusedSimpArgs false
set_option linter.unusedVariables false
open Go.RowKit Go.Shelf

theorem TSl.cells {w : World} {v : Value} {ts : List TurnD} (h : TSl w v ts) {k : Nat} (hk : k < ts.length) : ∃ b o cap, v = .slice (some ⟨b, o, none⟩) ts.length cap ∧ ts.length ≤ cap ∧ TurnAt w b (o + k * 3) ts[k] := by
  rcases h with ⟨rfl, _⟩ | ⟨b, o, cap, h1, h2, h3⟩
  · simp at hk
  · exact ⟨b, o, cap, h1, h2, h3 k hk⟩

theorem cells6 {W : World} {B : Nat} {x0 x1 x2 x3 x4 x5 : Value} {t1 : TypeId} (h1 : W.heap[B]? = some (.cells #[x0, x1, x2, x3, x4, x5] t1)) :
    W.cell? ⟨B, 0, none⟩ = some x0 ∧ W.cell? ⟨B, 1, none⟩ = some x1 ∧ W.cell? ⟨B, 2, none⟩ = some x2 ∧ W.cell? ⟨B, 3, none⟩ = some x3 ∧ W.cell? ⟨B, 4, none⟩ = some x4 ∧ W.cell? ⟨B, 5, none⟩ = some x5 :=
  ⟨by rw [cell_blk h1]; rfl, by rw [cell_blk h1]; rfl, by rw [cell_blk h1]; rfl, by rw [cell_blk h1]; rfl, by rw [cell_blk h1]; rfl, by rw [cell_blk h1]; rfl⟩

set_option maxRecDepth 100000 in
set_option maxHeartbeats 8000000 in
theorem same_any {s : ScriptD} {v1 v2 : Value} {w : World} (h1 : TSl w v1 s.turns) (h2 : TSl w v2 s.turns) (hn : s.turns.length ≤ 1000000) :
    Calls Tryz.prog 15 #[.agg (scriptA s v1), .agg (scriptA s v2)] w fun e w' => e = .returned (.bool true) ∧ Turn Nn w w' := by
  obtain ⟨w1, hw1⟩ : ∃ w1, (w.alloc (.cells (scriptA s v1) 26)).alloc (.cells (scriptA s v2) 26) = w1 := ⟨_, rfl⟩
  obtain ⟨b0, b1, t1⟩ := alloc2 hw1
  have H1 := Lib.hid (h1.turn t1)
  have H2 := Lib.hid (h2.turn t1)
  have HT := Lib.hid t1
  obtain ⟨M, hM⟩ : ∃ M, BT s.mod = M := ⟨_, rfl⟩
  obtain ⟨N, hN⟩ : ∃ N, s.turns.length = N := ⟨_, rfl⟩
  obtain ⟨pa, ca, e1⟩ := h1.shape
  obtain ⟨pb, cb, e2⟩ := h2.shape
  have HN := Lib.hid hN
  rw [hN] at hn e1 e2
  simp only [scriptA, hM] at b0 b1 hw1 ⊢
  subst e1 e2
  clear h1 h2 t1 hM hN
  obtain ⟨c0, c1, c2, c3, c4, c5⟩ := cells6 b0
  obtain ⟨d0, d1, d2, d3, d4, d5⟩ := cells6 b1
  have F0 := Lib.hid b0
  have F1 := Lib.hid b1
  clear b0 b1
  go_enter Tryz.func15, Tryz.ntmps15
  go_wp2_with fail
  clear c0 c1 c2 c3 c4 c5 d0 d1 d2 d3 d4 d5 hw1
  go_loopw [5] (fun i wr => ∃ k : Nat, k ≤ N ∧ i = .int .i64 k ∧ Turn Nn w1 wr) (fun i _ => N - (intOf i).toNat)
  case atStart => exact ⟨0, by omega, rfl, Turn.refl Nn w1⟩
  case round =>
    obtain ⟨k, hk, rfl, tr⟩ := hrel
    have TR := Lib.hid tr
    obtain ⟨c0, c1, c2, c3, c4, c5⟩ := cells6 ((tr.block _ (heap_lt F0.out) (fun h => h)).trans F0.out)
    obtain ⟨d0, d1, d2, d3, d4, d5⟩ := cells6 ((tr.block _ (heap_lt F1.out) (fun h => h)).trans F1.out)
    clear c0 c1 c2 c3 c4 d0 d1 d2 d3 d4
    by_cases hlt : k < N
    · have hkt : k < s.turns.length := by rw [HN.out]; exact hlt
      obtain ⟨ba, oa, cca, ea, la, x0, x1, x2⟩ := TSl.cells (H1.out.turn tr) hkt
      obtain ⟨bb, ob, ccb, eb, lb, y0, y1, y2⟩ := TSl.cells (H2.out.turn tr) hkt
      rw [HN.out] at ea eb la lb
      cases ea
      cases eb
      obtain ⟨T, hT⟩ : ∃ T, s.turns[k] = T := ⟨_, rfl⟩
      rw [hT] at x0 x1 x2 y0 y1 y2
      clear hT tr hkt
      go_wp2_with fail
      go_quiet (fail)
      go_wp2_with fail
      exact ⟨⟨k + 1, by omega, rfl, TR.out.drewN _⟩, by simp only [intOf]; omega⟩
    · have hek : k = N := by omega
      subst hek
      have hnlt : ¬ ((k : Int) < (k : Int)) := by omega
      clear tr
      go_wp2_with fail
      go_ret
      exact ⟨rfl, HT.out.trans TR.out⟩
end Go.Proofs.YtjnllclpdllceaaGreatDoor
