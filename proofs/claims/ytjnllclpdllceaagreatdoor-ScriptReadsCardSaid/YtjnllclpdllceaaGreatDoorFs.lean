/- Arguments that came in: a slice of bytes, a slice of arrays of three bytes, a draft. -/
import Derived.Test.YtjnllclpdllceaaGreatDoorFr
import Derived.Test.YtjnllclpdllceaaGreatDoorVi
import Derived.Laws.BytesArg
namespace Go.Proofs.YtjnllclpdllceaaGreatDoor
set_option linter.unusedSimpArgs false
set_option linter.unusedVariables false
open Go.ChangeShapes Go.WideShapes Go.ChangeAt Go.RowKit

theorem cellsOf27 : Tryz.prog.cellsOf 27 = 3 := by kernel_rfl
theorem cellsOf5 : Tryz.prog.cellsOf 5 = 1 := by kernel_rfl
theorem add_none (b o k : Nat) : (⟨b, o, none⟩ : Addr).add k = ⟨b, o + k, none⟩ := by unfold Addr.add; split <;> simp_all
theorem addr_none {W : World} {a : Addr} {v : Value} (h : W.cell? a = some v) : a.spot = none := by
  unfold World.cell? at h
  split at h
  · split at h
    · cases h
    · rename_i h2; cases hs : a.spot with
      | none => rfl
      | some x => rw [hs] at h2; simp at h2
  · cases h

set_option maxRecDepth 100000 in
theorem ASl.came {H : Type} {enc : TypeId × Value → H} {W : World} {fuel : Nat} {v : Value} {x : DataW H × List MemPlace}
    (hf : DataW.trod enc Tryz.prog W 0 (fun _ => true) true fuel 29 [v] = some x) : ∃ n, ASl W v n ∧ n ≤ maxLen := by
  rcases DataW.trod_slice Tryz.underlying29 hf with ⟨hcs, hx⟩ | ⟨a, len, cap, elems, rest, n, _, hcs, _, hb, hl, hm, hlen, hel, _, _⟩
  · obtain rfl : v = .slice none 0 0 := List.head_eq_of_cons_eq hcs
    exact ⟨0, ⟨none, 0, rfl, Nat.le_refl _, fun i hi => by omega⟩, Nat.zero_le _⟩
  · obtain rfl : v = .slice (some a) len cap := List.head_eq_of_cons_eq hcs
    have key : ∀ i, i < len → ∃ x y z : Int, W.cell? ((a.add (i * 3)).add 0) = some (.int .u8 x) ∧ W.cell? ((a.add (i * 3)).add 1) = some (.int .u8 y) ∧ W.cell? ((a.add (i * 3)).add 2) = some (.int .u8 z) ∧ 0 ≤ x ∧ x ≤ 255 ∧ 0 ≤ y ∧ y ≤ 255 ∧ 0 ≤ z ∧ z ≤ 255 := by
      intro i hi
      have he := hel i hi
      rw [List.getElem?_eq_getElem (by omega), cellsOf27] at he
      obtain ⟨cs, h1, h2⟩ := Option.bind_eq_some_iff.1 he
      have hcell : ∃ c0 c1 c2, W.cell? ((a.add (i * 3)).add 0) = some c0 ∧ W.cell? ((a.add (i * 3)).add 1) = some c1 ∧ W.cell? ((a.add (i * 3)).add 2) = some c2 ∧ cs = [c0, c1, c2] := by
        unfold World.cells? at h1
        simp only [Nat.zero_le, if_true] at h1
        cases k0 : W.cell? ((a.add (i * 3)).add 0) with
        | none => simp [List.range, List.range.loop, k0] at h1
        | some c0 =>
          cases k1 : W.cell? ((a.add (i * 3)).add 1) with
          | none => simp [List.range, List.range.loop, k0, k1] at h1
          | some c1 =>
            cases k2 : W.cell? ((a.add (i * 3)).add 2) with
            | none => simp [List.range, List.range.loop, k0, k1, k2] at h1
            | some c2 =>
              simp [List.range, List.range.loop, k0, k1, k2] at h1
              exact ⟨c0, c1, c2, rfl, rfl, rfl, h1.symm⟩
      obtain ⟨c0, c1, c2, hc0, hc1, hc2, rfl⟩ := hcell
      obtain ⟨xs, m, _, _, _, hxs, heach⟩ := DataW.trod_array Tryz.underlying27 h2
      have g0 := heach 0 (by omega)
      have g1 := heach 1 (by omega)
      have g2 := heach 2 (by omega)
      rw [cellsOf5, List.getElem?_eq_getElem (by omega)] at g0 g1 g2
      obtain ⟨x, e0, _, w0⟩ := DataW.trod_int Tryz.underlying5 g0
      obtain ⟨y, e1, _, w1⟩ := DataW.trod_int Tryz.underlying5 g1
      obtain ⟨z, e2, _, w2⟩ := DataW.trod_int Tryz.underlying5 g2
      simp at e0 e1 e2
      subst e0 e1 e2
      obtain ⟨x1, x2⟩ := bounds_u8 w0
      obtain ⟨y1, y2⟩ := bounds_u8 w1
      obtain ⟨z1, z2⟩ := bounds_u8 w2
      exact ⟨x, y, z, hc0, hc1, hc2, x1, x2, y1, y2, z1, z2⟩
    refine ⟨len, ⟨some a, cap, rfl, hl, fun i hi => ?_⟩, by omega⟩
    have hs : a.spot = none := by
      obtain ⟨_, _, _, h0, _⟩ := key 0 (by omega)
      have : ((a.add (0 * 3)).add 0) = a := by unfold Addr.add; simp
      rw [this] at h0
      exact addr_none h0
    obtain ⟨x, y, z, hc0, hc1, hc2, x1, x2, y1, y2, z1, z2⟩ := key i hi
    obtain ⟨b, o, s⟩ := a
    simp only at hs
    subst hs
    rw [add_none, add_none] at hc0 hc1 hc2
    refine ⟨b, o, x.toNat, y.toNat, z.toNat, rfl, by omega, by omega, by omega, ?_, ?_, ?_⟩
    · rw [Int.toNat_of_nonneg x1]; exact hc0
    · rw [Int.toNat_of_nonneg y1]; exact hc1
    · rw [Int.toNat_of_nonneg z1]; exact hc2

theorem cells_one0 {W : World} {x : Addr} {cs : List Value} (h : W.cells? 0 x 1 = some cs) : ∃ c, cs = [c] ∧ W.cell? x = some c := by
  unfold World.cells? at h
  simp only [Nat.zero_le, if_true] at h
  have e : x.add 0 = x := by unfold Addr.add; simp
  cases k0 : W.cell? x with
  | none => simp [List.range, List.range.loop, e, k0] at h
  | some c0 =>
    simp [List.range, List.range.loop, e, k0] at h
    exact ⟨c0, h.symm, rfl⟩

theorem empty_any (W : World) (a : Addr) (cap : Nat) : (convert 28 9 (.slice (some a) 0 cap)).run Tryz.prog W = .ok (.string ByteArray.empty) W := by
  have hl : (loadCells a 0).run Tryz.prog W = .ok ((([] : List Int).map (Value.int .u8)).toArray) W := by
    have := run_loadCells_list (P := Tryz.prog) W a [] (fun j v hj => by simp at hj)
    simpa using this
  rw [run_convert_bytes_string W 28 9 5 _ 0 cap Tryz.underlying28 Tryz.underlying5 Tryz.underlying9, run_bytesToString W _ 0 cap [] hl]
  rfl

set_option maxRecDepth 100000 in
theorem BSl.came {H : Type} {enc : TypeId × Value → H} {W : World} {fuel : Nat} {v : Value} {x : DataW H × List MemPlace}
    (hf : DataW.trod enc Tryz.prog W 0 (fun _ => true) true fuel 28 [v] = some x) : ∃ l, BSl W v l ∧ l.length ≤ maxLen := by
  rcases DataW.trod_slice Tryz.underlying28 hf with ⟨hcs, hx⟩ | ⟨a, len, cap, elems, rest, n, _, hcs, _, hb, hl, hm, hlen, hel, _, _⟩
  · obtain rfl : v = .slice none 0 0 := List.head_eq_of_cons_eq hcs
    refine ⟨[], ⟨none, 0, rfl, Nat.le_refl _, fun n hn W' _ => ?_⟩, Nat.zero_le _⟩
    rw [List.take_nil]
    exact run_convert_bytes_nil W' 28 5 Tryz.underlying28 Tryz.underlying5 n 0 9 Tryz.underlying9
  · obtain rfl : v = .slice (some a) len cap := List.head_eq_of_cons_eq hcs
    have key : ∀ i, i < len → ∃ z : Nat, z < 256 ∧ W.cell? (a.add i) = some (.int .u8 (z : Int)) := by
      intro i hi
      have he := hel i hi
      rw [List.getElem?_eq_getElem (by omega), cellsOf5, Nat.mul_one] at he
      obtain ⟨cs, h1, h2⟩ := Option.bind_eq_some_iff.1 he
      obtain ⟨c, rfl, hc⟩ := cells_one0 h1
      obtain ⟨z, e0, _, w0⟩ := DataW.trod_int Tryz.underlying5 h2
      obtain rfl : c = .int .u8 z := List.head_eq_of_cons_eq e0
      obtain ⟨x1, x2⟩ := bounds_u8 w0
      exact ⟨z.toNat, by omega, by rw [Int.toNat_of_nonneg x1]; exact hc⟩
    have hz : ∃ g : Nat → Nat, ∀ i, i < len → g i < 256 ∧ W.cell? (a.add i) = some (.int .u8 (g i : Int)) :=
      ⟨fun i => if h : i < len then (key i h).choose else 0, fun i hi => by simp only [hi, dif_pos]; exact (key i hi).choose_spec⟩
    obtain ⟨g, hg⟩ := hz
    obtain ⟨b, o, s⟩ := a
    refine ⟨(List.range len).map fun i => UInt8.ofNat (g i), ⟨some ⟨b, o, s⟩, cap, by simp, by simpa using hl, fun n hn W' tW => ?_⟩, by simp; omega⟩
    have hn' : n ≤ len := by simpa using hn
    by_cases h0 : len = 0
    · obtain rfl : n = 0 := by omega
      subst h0
      cases s with
      | none => exact run_convert_bytes_arg W' 28 5 Tryz.underlying28 Tryz.underlying5 b o 0 cap [] rfl (fun i hi => by omega) 9 Tryz.underlying9
      | some q => exact empty_any W' _ cap
    · have hs : s = none := by
        have h := addr_none (hg 0 (by omega)).2
        simpa [Addr.add] using h
      subst hs
      have := run_convert_bytes_arg (P := Tryz.prog) W' 28 5 Tryz.underlying28 Tryz.underlying5 b o n cap ((List.range n).map fun i => (g i : Int)) (by simp) (fun i hi => by
        have hc := (hg i (by omega)).2
        rw [add_none] at hc
        rw [cell_turn tW hc]
        simp [hi]) 9 Tryz.underlying9
      rw [this]
      refine congrArg (fun z => Result.ok (Value.string z) W') ?_
      unfold strOfNums BT
      refine congrArg (fun z : List UInt8 => (⟨z.toArray⟩ : ByteArray)) ?_
      rw [← List.map_take, List.take_range, Nat.min_eq_left hn']
      simp [List.map_map, Function.comp_def]

theorem cellsOf31 : Tryz.prog.cellsOf 31 = 7 := by kernel_rfl
theorem cellsOf28 : Tryz.prog.cellsOf 28 = 1 := by kernel_rfl
theorem cellsOf29 : Tryz.prog.cellsOf 29 = 1 := by kernel_rfl
theorem cellsOf4 : Tryz.prog.cellsOf 4 = 1 := by kernel_rfl

set_option maxRecDepth 100000 in
/-- A draft that came in. -/
theorem draft_came {H : Type} {enc : TypeId × Value → H} {W : World} {base : Nat} {v : Value} {d : DataW H} {ps : List MemPlace}
    (hv : Value.okWide Tryz.prog W .any base 31 v) (h : DataW.Trod enc Tryz.prog W 0 (fun _ => true) true 31 v d ps) :
    ∃ (a0 a1 a2 odd N : Nat) (tw : Bool) (mv tv : Value) (l : Bs), v = .agg (dcells a0 a1 a2 tw mv tv odd) ∧ a0 < 256 ∧ a1 < 256 ∧ a2 < 256 ∧ odd < 256 ∧ BSl W mv l ∧ l.length ≤ maxLen ∧ ASl W tv N ∧ N ≤ maxLen := by
  obtain ⟨⟨L⟩, rfl, hsz⟩ := okWide_struct Tryz.underlying31 hv
  obtain ⟨fuel, hf⟩ := h
  rw [cellsOf31] at hsz
  have hL : L.length = 7 := by simpa using hsz
  match L, hL with
  | [c0, c1, c2, c3, c4, c5, c6], _ =>
    replace hf : DataW.trod enc Tryz.prog W 0 (fun _ => true) true fuel 31 [c0, c1, c2, c3, c4, c5, c6] = some (d, ps) := hf
    obtain ⟨xs, n, _, _, hl, hlen, hfld⟩ := DataW.trod_struct Tryz.underlying31 hf
    match xs, hlen with
    | [y0, y1, y2, y3, y4], _ =>
      have g0 : DataW.trod enc Tryz.prog W 0 (fun _ => true) true n 27 [c0, c1, c2] = some y0 := by simpa [cellsOf27] using hfld 0 _ rfl
      have g1 : DataW.trod enc Tryz.prog W 0 (fun _ => true) true n 4 [c3] = some y1 := by simpa [cellsOf4] using hfld 1 _ rfl
      have g2 : DataW.trod enc Tryz.prog W 0 (fun _ => true) true n 28 [c4] = some y2 := by simpa [cellsOf28] using hfld 2 _ rfl
      have g3 : DataW.trod enc Tryz.prog W 0 (fun _ => true) true n 29 [c5] = some y3 := by simpa [cellsOf29] using hfld 3 _ rfl
      have g4 : DataW.trod enc Tryz.prog W 0 (fun _ => true) true n 5 [c6] = some y4 := by simpa [cellsOf5] using hfld 4 _ rfl
      obtain ⟨zs, m, _, _, _, hxs, heach⟩ := DataW.trod_array Tryz.underlying27 g0
      have k0 := heach 0 (by omega)
      have k1 := heach 1 (by omega)
      have k2 := heach 2 (by omega)
      rw [cellsOf5, List.getElem?_eq_getElem (by omega)] at k0 k1 k2
      obtain ⟨x, e0, _, w0⟩ := DataW.trod_int Tryz.underlying5 k0
      obtain ⟨y, e1, _, w1⟩ := DataW.trod_int Tryz.underlying5 k1
      obtain ⟨z, e2, _, w2⟩ := DataW.trod_int Tryz.underlying5 k2
      obtain ⟨o, e4, _, w4⟩ := DataW.trod_int Tryz.underlying5 g4
      obtain ⟨tw, e3, _⟩ := DataW.trod_bool Tryz.underlying4 g1
      simp at e0 e1 e2 e3 e4
      subst e0 e1 e2 e3 e4
      obtain ⟨x1, x2⟩ := bounds_u8 w0
      obtain ⟨y1, y2⟩ := bounds_u8 w1
      obtain ⟨z1, z2⟩ := bounds_u8 w2
      obtain ⟨o1, o2⟩ := bounds_u8 w4
      obtain ⟨l, hl1, hl2⟩ := BSl.came g2
      obtain ⟨N, hN1, hN2⟩ := ASl.came g3
      refine ⟨x.toNat, y.toNat, z.toNat, o.toNat, N, tw, c4, c5, l, ?_, by omega, by omega, by omega, by omega, hl1, hl2, hN1, hN2⟩
      unfold dcells
      rw [Int.toNat_of_nonneg x1, Int.toNat_of_nonneg y1, Int.toNat_of_nonneg z1, Int.toNat_of_nonneg o1]
end Go.Proofs.YtjnllclpdllceaaGreatDoor
