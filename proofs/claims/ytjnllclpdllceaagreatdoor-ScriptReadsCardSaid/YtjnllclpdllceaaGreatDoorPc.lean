/- Arguments that came in: a slice of turns, a script. -/
import Derived.Test.YtjnllclpdllceaaGreatDoorFs
import Derived.Deep.Strs
namespace Go.Proofs.YtjnllclpdllceaaGreatDoor
set_option linter.unusedSimpArgs false
set_option linter.unusedVariables false
open Go.ChangeShapes Go.WideShapes Go.ChangeAt Go.RowKit

theorem cellsOf60 : Tryz.prog.cellsOf 60 = 3 := by kernel_rfl
theorem cellsOf26 : Tryz.prog.cellsOf 26 = 6 := by kernel_rfl
theorem cellsOf23 : Tryz.prog.cellsOf 23 = 3 := by kernel_rfl
theorem cellsOf24 : Tryz.prog.cellsOf 24 = 1 := by kernel_rfl
theorem cellsOf9 : Tryz.prog.cellsOf 9 = 1 := by kernel_rfl
theorem cellsOf3 : Tryz.prog.cellsOf 3 = 1 := by kernel_rfl

theorem cells_three0 {W : World} {x : Addr} {cs : List Value} (h : W.cells? 0 x 3 = some cs) : ∃ c0 c1 c2, W.cell? (x.add 0) = some c0 ∧ W.cell? (x.add 1) = some c1 ∧ W.cell? (x.add 2) = some c2 ∧ cs = [c0, c1, c2] := by
  unfold World.cells? at h
  simp only [Nat.zero_le, if_true] at h
  cases k0 : W.cell? (x.add 0) with
  | none => simp [List.range, List.range.loop, k0] at h
  | some c0 =>
    cases k1 : W.cell? (x.add 1) with
    | none => simp [List.range, List.range.loop, k0, k1] at h
    | some c1 =>
      cases k2 : W.cell? (x.add 2) with
      | none => simp [List.range, List.range.loop, k0, k1, k2] at h
      | some c2 =>
        simp [List.range, List.range.loop, k0, k1, k2] at h
        exact ⟨c0, c1, c2, rfl, rfl, rfl, h.symm⟩

set_option maxRecDepth 100000 in
theorem TSl.came {H : Type} {enc : TypeId × Value → H} {W : World} {fuel : Nat} {v : Value} {x : DataW H × List MemPlace}
    (hf : DataW.trod enc Tryz.prog W 0 (fun _ => true) true fuel 24 [v] = some x) : ∃ ts pa cap, v = .slice pa ts.length cap ∧ TSl W (.slice pa ts.length cap) ts ∧ ts.length ≤ cap ∧ ts.length ≤ maxLen := by
  rcases DataW.trod_slice Tryz.underlying24 hf with ⟨hcs, hx⟩ | ⟨a, len, cap, elems, rest, n, _, hcs, _, hb, hl, hm, hlen, hel, _, _⟩
  · obtain rfl : v = .slice none 0 0 := List.head_eq_of_cons_eq hcs
    exact ⟨[], none, 0, rfl, .inl ⟨rfl, _, _, rfl⟩, Nat.le_refl _, Nat.zero_le _⟩
  · obtain rfl : v = .slice (some a) len cap := List.head_eq_of_cons_eq hcs
    have key : ∀ i, i < len → ∃ t : TurnD, W.cell? ((a.add (i * 3)).add 0) = some (.int .i64 t.kind) ∧ W.cell? ((a.add (i * 3)).add 1) = some (.int .i64 t.slot) ∧ W.cell? ((a.add (i * 3)).add 2) = some (.int .i64 t.times) := by
      intro i hi
      have he := hel i hi
      rw [List.getElem?_eq_getElem (by omega), cellsOf60] at he
      obtain ⟨cs, h1, h2⟩ := Option.bind_eq_some_iff.1 he
      obtain ⟨c0, c1, c2, hc0, hc1, hc2, rfl⟩ := cells_three0 h1
      obtain ⟨y0, y1, y2, m, _, _, g0, g1, g2⟩ := Go.Deep.trod_struct3 Tryz.underlying60 h2
      have g0 : DataW.trod enc Tryz.prog W 0 (fun _ => true) true m 3 [c0] = some y0 := by simpa [cellsOf3] using g0
      have g1 : DataW.trod enc Tryz.prog W 0 (fun _ => true) true m 3 [c1] = some y1 := by simpa [cellsOf3] using g1
      have g2 : DataW.trod enc Tryz.prog W 0 (fun _ => true) true m 3 [c2] = some y2 := by simpa [cellsOf3] using g2
      obtain ⟨x, e0, _, _⟩ := DataW.trod_int Tryz.underlying3 g0
      obtain ⟨y, e1, _, _⟩ := DataW.trod_int Tryz.underlying3 g1
      obtain ⟨z, e2, _, _⟩ := DataW.trod_int Tryz.underlying3 g2
      simp at e0 e1 e2
      subst e0 e1 e2
      exact ⟨⟨x, y, z⟩, hc0, hc1, hc2⟩
    have hz : ∃ g : Nat → TurnD, ∀ i, i < len → W.cell? ((a.add (i * 3)).add 0) = some (.int .i64 (g i).kind) ∧ W.cell? ((a.add (i * 3)).add 1) = some (.int .i64 (g i).slot) ∧ W.cell? ((a.add (i * 3)).add 2) = some (.int .i64 (g i).times) :=
      ⟨fun i => if h : i < len then (key i h).choose else ⟨0, 0, 0⟩, fun i hi => by simp only [hi, dif_pos]; exact (key i hi).choose_spec⟩
    obtain ⟨g, hg⟩ := hz
    have hL : ((List.range len).map g).length = len := by simp
    refine ⟨(List.range len).map g, some a, cap, by rw [hL], ?_, by rw [hL]; exact hl, by rw [hL]; omega⟩
    by_cases h0 : len = 0
    · subst h0
      exact .inl ⟨rfl, _, _, rfl⟩
    · have hs : a.spot = none := by
        have h := addr_none (hg 0 (by omega)).1
        simpa [Addr.add] using h
      obtain ⟨b, o, s⟩ := a
      simp only at hs
      subst hs
      refine .inr ⟨b, o, cap, by rw [hL], by rw [hL]; exact hl, fun i hi => ?_⟩
      rw [hL] at hi
      obtain ⟨k0, k1, k2⟩ := hg i hi
      rw [add_none, add_none] at k0 k1 k2
      have e : ((List.range len).map g)[i]'(by rw [hL]; exact hi) = g i := by simp
      rw [e]
      exact ⟨k0, k1, k2⟩

set_option maxRecDepth 100000 in
/-- A script that came in. -/
theorem script_came {H : Type} {enc : TypeId × Value → H} {W : World} {base : Nat} {v : Value} {d : DataW H} {ps : List MemPlace}
    (hv : Value.okWide Tryz.prog W .any base 26 v) (h : DataW.Trod enc Tryz.prog W 0 (fun _ => true) true 26 v d ps) :
    ∃ (s : ScriptD) (pa : Option Addr) (cap : Nat), v = .agg (scriptA s (.slice pa s.turns.length cap)) ∧ TSl W (.slice pa s.turns.length cap) s.turns ∧ s.turns.length ≤ cap ∧ s.turns.length ≤ maxLen ∧ s.mod.length ≤ maxLen := by
  obtain ⟨⟨L⟩, rfl, hsz⟩ := okWide_struct Tryz.underlying26 hv
  obtain ⟨fuel, hf⟩ := h
  rw [cellsOf26] at hsz
  have hL : L.length = 6 := by simpa using hsz
  match L, hL with
  | [c0, c1, c2, c3, c4, c5], _ =>
    replace hf : DataW.trod enc Tryz.prog W 0 (fun _ => true) true fuel 26 [c0, c1, c2, c3, c4, c5] = some (d, ps) := hf
    obtain ⟨xs, n, _, _, hl, hlen, hfld⟩ := DataW.trod_struct Tryz.underlying26 hf
    match xs, hlen with
    | [y0, y1, y2, y3], _ =>
      have g0 : DataW.trod enc Tryz.prog W 0 (fun _ => true) true n 23 [c0, c1, c2] = some y0 := by simpa [cellsOf23] using hfld 0 _ rfl
      have g1 : DataW.trod enc Tryz.prog W 0 (fun _ => true) true n 4 [c3] = some y1 := by simpa [cellsOf4] using hfld 1 _ rfl
      have g2 : DataW.trod enc Tryz.prog W 0 (fun _ => true) true n 9 [c4] = some y2 := by simpa [cellsOf9] using hfld 2 _ rfl
      have g3 : DataW.trod enc Tryz.prog W 0 (fun _ => true) true n 24 [c5] = some y3 := by simpa [cellsOf24] using hfld 3 _ rfl
      obtain ⟨z0, z1, z2, m, _, _, k0, k1, k2⟩ := Go.Deep.trod_struct3 Tryz.underlying23 g0
      have k0 : DataW.trod enc Tryz.prog W 0 (fun _ => true) true m 3 [c0] = some z0 := by simpa [cellsOf3] using k0
      have k1 : DataW.trod enc Tryz.prog W 0 (fun _ => true) true m 3 [c1] = some z1 := by simpa [cellsOf3] using k1
      have k2 : DataW.trod enc Tryz.prog W 0 (fun _ => true) true m 3 [c2] = some z2 := by simpa [cellsOf3] using k2
      obtain ⟨x, e0, _, _⟩ := DataW.trod_int Tryz.underlying3 k0
      obtain ⟨y, e1, _, _⟩ := DataW.trod_int Tryz.underlying3 k1
      obtain ⟨z, e2, _, _⟩ := DataW.trod_int Tryz.underlying3 k2
      obtain ⟨tw, e3, _⟩ := DataW.trod_bool Tryz.underlying4 g1
      obtain ⟨st, e4, _, hst⟩ := DataW.trod_string Tryz.underlying9 g2
      obtain ⟨ts, pa, cap, hv5, hT, hc1, hc2⟩ := TSl.came g3
      simp at e0 e1 e2 e3 e4
      subst e0 e1 e2 e3 e4 hv5
      have hbt : BT st.data.toList = st := by cases st; unfold BT; simp
      refine ⟨⟨x, y, z, tw, st.data.toList, ts⟩, pa, cap, ?_, hT, hc1, hc2, ?_⟩
      · unfold scriptA; simp only [hbt]
      · have : st.data.toList.length = st.size := by rw [Array.length_toList]; rfl
        show st.data.toList.length ≤ maxLen
        omega
end Go.Proofs.YtjnllclpdllceaaGreatDoor
