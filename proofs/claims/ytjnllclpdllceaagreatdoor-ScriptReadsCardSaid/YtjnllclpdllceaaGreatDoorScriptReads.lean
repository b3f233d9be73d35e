/- Any text is read as the document says: for every text, draft and list of changes the call returns true, and the arguments read as they did. The condition: the listed variables hold what the program's text lays. -/
import Derived.Test.YtjnllclpdllceaaGreatDoorFv
import Derived.Test.YtjnllclpdllceaaGreatDoorFs
import Derived.Test.YtjnllclpdllceaaGreatDoorNc
import Derived.Test.YtjnllclpdllceaaGreatDoorPc
import Derived.Test.YtjnllclpdllceaaGreatDoorCards
import Derived.Test.YtjnllclpdllceaaGreatDoorTie
import Derived.SevenTiedAt
import Derived.ChangeMaps5
namespace Go.Proofs.YtjnllclpdllceaaGreatDoor
set_option linter.unusedSimpArgs false
set_option linter.unusedVariables false
open Go.ChangeShapes Go.WideShapes Go.ChangeAt Go.RowKit

theorem BT_of (s : ByteArray) : BT s.data.toList = s := by cases s; unfold BT; simp

theorem cellsOf43 : Tryz.prog.cellsOf 43 = 3 := by kernel_rfl
theorem cellsOf41 : Tryz.prog.cellsOf 41 = 1 := by kernel_rfl

set_option maxRecDepth 100000 in
theorem CSl.came {H : Type} {enc : TypeId × Value → H} {W : World} {base : Nat} {v : Value} {d : DataW H} {ps : List MemPlace}
    (hv : Value.okWide Tryz.prog W .any base 38 v) (h : DataW.Trod enc Tryz.prog W 0 (fun _ => true) true 38 v d ps) : ∃ n, CSl W v n ∧ n ≤ maxLen := by
  obtain ⟨a0, len, cap, rfl⟩ := okWide_slice Tryz.underlying38 hv
  obtain ⟨fuel, hf⟩ := h
  replace hf : DataW.trod enc Tryz.prog W 0 (fun _ => true) true fuel 38 [.slice a0 len cap] = some (d, ps) := hf
  rcases DataW.trod_slice Tryz.underlying38 hf with ⟨hcs, hx⟩ | ⟨a, len', cap', elems, rest, n, _, hcs, _, hb, hl, hm, hlen, hel, _, _⟩
  · have e := List.head_eq_of_cons_eq hcs
    simp only [Value.slice.injEq] at e
    obtain ⟨rfl, rfl, rfl⟩ := e
    exact ⟨0, ⟨none, 0, rfl, Nat.le_refl _, fun i hi => by omega⟩, Nat.zero_le _⟩
  · have e := List.head_eq_of_cons_eq hcs
    simp only [Value.slice.injEq] at e
    obtain ⟨rfl, rfl, rfl⟩ := e
    have key : ∀ i, i < len → ∃ x y z : Nat, x < 256 ∧ y < 65536 ∧ z < 256 ∧ W.cell? ((a.add (i * 3)).add 0) = some (.int .u8 (x : Int)) ∧ W.cell? ((a.add (i * 3)).add 1) = some (.int .u16 (y : Int)) ∧ W.cell? ((a.add (i * 3)).add 2) = some (.int .u8 (z : Int)) := by
      intro i hi
      have he := hel i hi
      rw [List.getElem?_eq_getElem (by omega), cellsOf43] at he
      obtain ⟨cs, h1, h2⟩ := Option.bind_eq_some_iff.1 he
      obtain ⟨c0, c1, c2, hc0, hc1, hc2, rfl⟩ := cells_three0 h1
      obtain ⟨y0, y1, y2, m, _, _, g0, g1, g2⟩ := Go.Deep.trod_struct3 Tryz.underlying43 h2
      have g0 : DataW.trod enc Tryz.prog W 0 (fun _ => true) true m 5 [c0] = some y0 := by simpa [cellsOf5] using g0
      have g1 : DataW.trod enc Tryz.prog W 0 (fun _ => true) true m 41 [c1] = some y1 := by simpa [cellsOf41] using g1
      have g2 : DataW.trod enc Tryz.prog W 0 (fun _ => true) true m 5 [c2] = some y2 := by simpa [cellsOf5] using g2
      obtain ⟨x, e0, _, w0⟩ := DataW.trod_int Tryz.underlying5 g0
      obtain ⟨y, e1, _, w1⟩ := DataW.trod_int Tryz.underlying41 g1
      obtain ⟨z, e2, _, w2⟩ := DataW.trod_int Tryz.underlying5 g2
      simp at e0 e1 e2
      subst e0 e1 e2
      obtain ⟨x1, x2⟩ := bounds_u8 w0
      obtain ⟨y1, y2⟩ := bounds_u16 w1
      obtain ⟨z1, z2⟩ := bounds_u8 w2
      exact ⟨x.toNat, y.toNat, z.toNat, by omega, by omega, by omega, by rw [Int.toNat_of_nonneg x1]; exact hc0, by rw [Int.toNat_of_nonneg y1]; exact hc1, by rw [Int.toNat_of_nonneg z1]; exact hc2⟩
    refine ⟨len, ⟨some a, cap, rfl, hl, fun i hi => ?_⟩, by omega⟩
    have hs : a.spot = none := by
      obtain ⟨_, _, _, _, _, _, h0, _⟩ := key 0 (by omega)
      have h := addr_none h0
      simpa [Addr.add] using h
    obtain ⟨x, y, z, hx, hy, hz, hc0, hc1, hc2⟩ := key i hi
    obtain ⟨b, o, s⟩ := a
    simp only at hs
    subst hs
    rw [add_none, add_none] at hc0 hc1 hc2
    exact ⟨b, o, x, y, z, rfl, hx, hy, hz, hc0, hc1, hc2⟩

set_option maxRecDepth 100000 in
theorem scriptReads_lifted (os : Os) (started : os.Started) (H : Type) (enc : TypeId × Value → H) :
    ReturnsInHanded {} Tryz.checked os 4 .any (fun w args => (Rows.scriptReadsSpec.pre enc Tryz.prog Tryz.f4 [] false w args ∧ laidMetH Tryz.prog Rows.scriptBackRow.laid w) ∧ sizedMet enc Tryz.prog Tryz.f4 (OpenSpec.ofChange Rows.scriptReadsSpec) false w args)
      (Rows.scriptReadsSpec.post enc Tryz.prog Tryz.f4 false true false false) := by
  refine row_wrap (C := Tryz.checked) (X := fun w _ => laidMetH Tryz.prog Rows.scriptBackRow.laid w) (fun _ _ _ hh h => h.of_heap hh) own started (by kernel_rfl) Tryz.func4
    (ChangeSpec.witness_shaped (enc := enc) (C := Tryz.checked) (os := os) (X := fun w _ => laidMetH Tryz.prog Rows.scriptBackRow.laid w) false (laidWorld os) #[.string ⟨#[]⟩, .agg (dcells 0 0 0 false (.slice none 0 0) (.slice none 0 0) 0), .slice none 0 0] 8 (laidWorld_os os)
      (World.shaped_of_ZipB (by kernel_rfl) (by kernel_rfl)) (by kernel_rfl) (by kernel_rfl) (by kernel_rfl) (laidWorld_met os _)) ?_
  intro W base args ds gs before hval0 hW hL hsh
  have hval : ∀ (j : Nat) t v, Tryz.f4.params[j]? = some t → args[j]? = some v → Value.okWide Tryz.prog W .any base t v := hval0
  have hW' := hW
  obtain ⟨p, q, hA0, hV, rfl, hfz, hnd⟩ := hW
  have hA : DataW.TrodAll enc Tryz.prog W 0 (fun _ => true) true Tryz.f4.params.toList args.toList ds p := hA0
  rw [Tryz.params4] at hA hval
  obtain ⟨v0, v1, v2, d0, d1, d2, p0, p1, p2, rfl, rfl, rfl, h0, h1, h2⟩ := trodAll_three hA
  obtain ⟨rfl, rfl⟩ := trodVars_none hV
  clear hA0 hval0
  simp only [List.append_nil] at hW'
  have hok0 := hval 0 9 v0 rfl rfl
  have hok1 := hval 1 31 v1 rfl rfl
  have hok2 := hval 2 38 v2 rfl rfl
  obtain ⟨s, rfl, _, _, hs⟩ := Go.ChangeMaps.open_string Tryz.underlying9 hok0 h0
  obtain ⟨a0, a1, a2, odd, N, tw, mv, tv, l, rfl, k0, k1, k2, ko, hm, hl, ht, hN⟩ := draft_came hok1 h1
  obtain ⟨K, hK, hKl⟩ := CSl.came hok2 h2
  have hlt : ∀ x ∈ p0 ++ (p1 ++ p2), x.block < W.heap.size := fun x hx => by
    have := hW'.lt x (by simpa using hx)
    simpa using this
  have hb := scriptReads_any (tw := tw) (odd := odd) (t0 := s.data.toList) k0 k1 k2 ko hm (by unfold maxLen at hl; omega) ht (by unfold maxLen at hN; omega) hK (by unfold maxLen at hKl; omega) (by rw [BT_of]; unfold maxLen at hs; omega) (Laid.of hL) (Mx.of hsh) (ET.of hL)
  rw [BT_of] at hb
  refine hb.mono fun e W' ⟨he, hg⟩ => ?_
  subst he
  have hbel := Turn.below hg
  exact ⟨_, rfl, post_of_below (pa := p0 ++ (p1 ++ p2)) (pv := []) hW' (fun _ _ _ => (trodAll_cons_mk (shut_bool Tryz.underlying4 _) trodAll_mk0))
    (fun sp hsp => by
      have hsp' : ∀ x ∈ p0 ++ (p1 ++ p2), sp x.block = true := fun x hx => hsp x (by simpa using hx)
      have t2 := trodAll_cons_mk (WideElems.Trod_stays laidOut (by kernel_rfl) (of_decide_eq_true (by kernel_rfl)) h2 (fun x hx => hbel.same (hlt x (by simp [hx]))) (fun x hx => hsp' x (by simp [hx]))) (trodAll_mk0 (enc := enc) (P := Tryz.prog) (w := W') (base := 0) (spare := sp) (held := true))
      have t1 := trodAll_cons_mk (WideElems.Trod_stays laidOut (by kernel_rfl) (of_decide_eq_true (by kernel_rfl)) h1 (fun x hx => hbel.same (hlt x (by simp [hx]))) (fun x hx => hsp' x (by simp [hx]))) t2
      have t0 := trodAll_cons_mk (WideElems.Trod_stays laidOut (by kernel_rfl) (of_decide_eq_true (by kernel_rfl)) h0 (fun x hx => hbel.same (hlt x (by simp [hx]))) (fun x hx => hsp' x (by simp [hx]))) t1
      show DataW.TrodAll enc Tryz.prog W' 0 sp true [9, 31, 38] [_, _, _] [d0, d1, d2] (p0 ++ (p1 ++ p2))
      simpa using t0)
    (fun _ _ => rfl) (by simp) hbel (ok_one (by kernel_rfl) rfl (okWide_bool_mk Tryz.underlying4 _))⟩

theorem scriptReads_row : Rows.ScriptReadsSaid :=
  OpenClaim.holds_of_wide 4 Tryz.f4 rfl rfl rfl rfl rfl rfl rfl ⟨rfl, rfl, rfl, rfl, rfl⟩ rfl rfl rfl rfl rfl (by kernel_rfl) Tryz.func4 (by kernel_rfl)
    (of_decide_eq_true (by kernel_rfl)) (by unfold Func.isWrapper; first | (rw [if_pos (by decide +kernel)]; kernel_rfl) | (rw [if_neg (by decide +kernel)]; exact ⟨rfl, rfl⟩))
    (fun os started H enc _ => scriptReads_lifted os started H enc)

theorem scriptReads_holds : Rows.ScriptReadsCardSaid :=
  Claim7.holds_tied_plain_at .later [] [.data, .data, .data, .data, .handle, .sentinel, .sentinel, .pinned] true (true, "f4969d656ed1a4e288c73bdfa1dc34cc1096371d0ddab8bec62265e0eac7281d") true
    scriptReads_row (fun _ h => by cases h) (by kernel_rfl) (fun _ h => by cases h) scriptReads_row_tie rfl ⟨rfl, rfl⟩ (by kernel_rfl) rfl
    (fun f fn hf hfn => by
      obtain rfl : f = 4 := Option.some.inj ((show Tryz.prog.funcNamed "colloquy/colloquylaw32.ScriptReads" = some 4 by kernel_rfl).symm.trans hf) |>.symm
      obtain rfl : fn = Tryz.f4 := (Option.some.inj (Tryz.func4.symm.trans hfn)).symm
      exact ⟨by kernel_rfl, fun j t ht => by
        rw [Tryz.params4] at ht
        have hm : t ∈ [9, 31, 38] := by simpa using Array.mem_of_getElem? ht
        have hall : ([9, 31, 38].all fun u => !Tryz.prog.wantsStandIn u) = true := by kernel_rfl
        exact (show Tryz.prog.wantsStandIn t = false by simpa using List.all_eq_true.1 hall t hm)⟩)
    (by kernel_rfl)
#print axioms scriptReads_holds
end Go.Proofs.YtjnllclpdllceaaGreatDoor
