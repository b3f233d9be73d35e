/- A slice of acts that came in. -/
import Derived.Test.YtjnekmdocbmofaaQueueMoves
import Derived.Test.YtjnekmdocbmofaaRl
import Derived.Deep.Strs
namespace Go.Proofs.Ytjnekmdocbmofaa
set_option linter.unusedSimpArgs false
set_option linter.unusedVariables false
open Go.ChangeShapes Go.WideShapes Go.ChangeAt Go.RowKit Go.Deep

theorem cells57 : Try.prog.cellsOf 57 = 3 := by kernel_rfl
theorem cells3 : Try.prog.cellsOf 3 = 1 := by kernel_rfl

theorem act_struct : ∃ f0 f1 f2 : Field, Try.prog.underlying 57 = some (.struct #[f0, f1, f2]) ∧ f0.type = 5 ∧ f0.offset = 0 ∧ f1.type = 3 ∧ f1.offset = 1 ∧ f2.type = 2 ∧ f2.offset = 2 :=
  ⟨_, _, _, Try.underlying57, rfl, rfl, rfl, rfl, rfl, rfl⟩

theorem ActI.came {H : Type} {enc : TypeId × Value → H} {W : World} {base : Nat} {v : Value} {d : DataW H} {ps : List MemPlace}
    (hv : Value.okWide Try.prog W .any base 53 v) (h : DataW.Trod enc Try.prog W 0 (fun _ => true) true 53 v d ps) : ∃ n pa cap, v = .slice pa n cap ∧ ActI W pa n := by
  obtain ⟨a0, len, cap, rfl⟩ := okWide_slice Try.underlying53 hv
  obtain ⟨fuel, hf⟩ := h
  rcases DataW.trod_slice Try.underlying53 hf with ⟨hcs, hx⟩ | ⟨a, len', cap', elems, rest, n, _, hcs, _, hb, hl, hm, hlen, hel, _, _⟩
  · simp [Value.cells] at hcs
    obtain ⟨rfl, rfl, rfl⟩ := hcs
    exact ⟨0, none, 0, rfl, fun i hi => by omega⟩
  · simp [Value.cells] at hcs
    obtain ⟨rfl, rfl, rfl⟩ := hcs
    have key : ∀ i, i < len → ∃ y e z : Int, W.cell? ((a.add (i * 3)).add 0) = some (.int .u8 y) ∧ W.cell? ((a.add (i * 3)).add 1) = some (.int .i64 e) ∧ W.cell? ((a.add (i * 3)).add 2) = some (.int .i64 z) ∧ 0 ≤ y ∧ y ≤ 255 := fun i hi => by
      have he := hel i hi
      rw [List.getElem?_eq_getElem (by omega), cells57] at he
      obtain ⟨cs, h1, h2⟩ := Option.bind_eq_some_iff.1 he
      have hcell : ∃ c0 c1 c2, W.cell? ((a.add (i * 3)).add 0) = some c0 ∧ W.cell? ((a.add (i * 3)).add 1) = some c1 ∧ W.cell? ((a.add (i * 3)).add 2) = some c2 ∧ cs = [c0, c1, c2] := by
        unfold World.cells? at h1
        simp only [Nat.zero_le, if_true] at h1
        cases k0 : W.cell? ((a.add (i * 3)).add 0) with
        | none => simp [List.range, List.range.loop, k0] at h1
        | some c0 =>
          cases k1 : W.cell? ((a.add (i * 3)).add 1) with
          | none => simp [List.range, List.range.loop, k0, k1] at h1
          | some c1 =>
            cases k2 : W.cell? ((a.add (i * 3)).add 2) with
            | none => simp [List.range, List.range.loop, k0, k1, k2] at h1
            | some c2 =>
              simp [List.range, List.range.loop, k0, k1, k2] at h1
              exact ⟨c0, c1, c2, rfl, rfl, rfl, h1.symm⟩
      obtain ⟨c0, c1, c2, hc0, hc1, hc2, rfl⟩ := hcell
      obtain ⟨f0, f1, f2, hu, e1, e2, e3, e4, e5, e6⟩ := act_struct
      obtain ⟨y0, y1, y2, m, _, _, g0, g1, g2⟩ := trod_struct3 hu h2
      rw [e1, e2, cells5] at g0
      rw [e3, e4, cells3] at g1
      rw [e5, e6, cells2] at g2
      obtain ⟨y, q0, _, wy⟩ := DataW.trod_int Try.underlying5 g0
      obtain ⟨e, q1, _, _⟩ := DataW.trod_int Try.underlying3 g1
      obtain ⟨z, q2, _, _⟩ := DataW.trod_int Try.underlying2 g2
      simp at q0 q1 q2
      subst q0 q1 q2
      obtain ⟨b1, b2⟩ := bounds_u8 wy
      exact ⟨y, e, z, hc0, hc1, hc2, b1, b2⟩
    refine ⟨len, some a, cap, rfl, fun i hi => ?_⟩
    have hs : a.spot = none := by
      obtain ⟨_, _, _, h0, _⟩ := key 0 (by omega)
      have : ((a.add (0 * 3)).add 0) = a := by unfold Addr.add; simp
      rw [this] at h0
      exact addr_none h0
    obtain ⟨y, e, z, hc0, hc1, hc2, b1, b2⟩ := key i hi
    obtain ⟨b, o, s⟩ := a
    simp only at hs
    subst hs
    have ha0 : ((⟨b, o, none⟩ : Addr).add (i * 3)).add 0 = ⟨b, o + i * 3, none⟩ := by rw [add_none, add_none]; rfl
    have ha1 : ((⟨b, o, none⟩ : Addr).add (i * 3)).add 1 = ⟨b, o + i * 3 + 1, none⟩ := by rw [add_none, add_none]
    have ha2 : ((⟨b, o, none⟩ : Addr).add (i * 3)).add 2 = ⟨b, o + i * 3 + 2, none⟩ := by rw [add_none, add_none]
    rw [ha0] at hc0
    rw [ha1] at hc1
    rw [ha2] at hc2
    exact ⟨b, o, y, e, z, rfl, b1, b2, hc0, hc1, hc2⟩
end Go.Proofs.Ytjnekmdocbmofaa
