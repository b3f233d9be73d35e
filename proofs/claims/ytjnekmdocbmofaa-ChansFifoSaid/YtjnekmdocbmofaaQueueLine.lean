/- Words come out as they came in: for every size, list of words and rounds the call returns true, and the arguments read as they did. No conditions. -/
import Derived.Test.YtjnekmdocbmofaaQueueOwn
import Derived.Test.YtjnekmdocbmofaaQm
namespace Go.Proofs.Ytjnekmdocbmofaa
set_option linter.unusedSimpArgs false
set_option linter.unusedVariables false
open Go.ChangeShapes Go.WideShapes Go.ChangeAt Go.RowKit

theorem cells42 : Try.prog.cellsOf 42 = 2 := by kernel_rfl
theorem cells5 : Try.prog.cellsOf 5 = 1 := by kernel_rfl

theorem add_none (b o k : Nat) : (⟨b, o, none⟩ : Addr).add k = ⟨b, o + k, none⟩ := by unfold Addr.add; split <;> simp_all

theorem addr_none {W : World} {a : Addr} {v : Value} (h : W.cell? a = some v) : a.spot = none := by
  unfold World.cell? at h
  split at h
  · split at h
    · cases h
    · rename_i h2; cases hs : a.spot with
      | none => rfl
      | some x => rw [hs] at h2; simp at h2
  · cases h

/-- A slice of pairs of bytes that came in. -/
theorem PairI.came {H : Type} {enc : TypeId × Value → H} {W : World} {base : Nat} {v : Value} {d : DataW H} {ps : List MemPlace}
    (hv : Value.okWide Try.prog W .any base 41 v) (h : DataW.Trod enc Try.prog W 0 (fun _ => true) true 41 v d ps) : ∃ n, PairI W v n := by
  obtain ⟨a0, len, cap, rfl⟩ := okWide_slice Try.underlying41 hv
  obtain ⟨fuel, hf⟩ := h
  rcases DataW.trod_slice Try.underlying41 hf with ⟨hcs, hx⟩ | ⟨a, len', cap', elems, rest, n, _, hcs, _, hb, hl, hm, hlen, hel, _, _⟩
  · simp [Value.cells] at hcs
    obtain ⟨rfl, rfl, rfl⟩ := hcs
    exact ⟨0, none, 0, rfl, fun i hi => by omega⟩
  · simp [Value.cells] at hcs
    obtain ⟨rfl, rfl, rfl⟩ := hcs
    have key : ∀ i, i < len → ∃ y z : Int, W.cell? ((a.add (i * 2)).add 0) = some (.int .u8 y) ∧ W.cell? ((a.add (i * 2)).add 1) = some (.int .u8 z) ∧ 0 ≤ y ∧ y ≤ 255 ∧ 0 ≤ z ∧ z ≤ 255 := fun i hi => by
      have he := hel i hi
      rw [List.getElem?_eq_getElem (by omega), cells42] at he
      obtain ⟨cs, h1, h2⟩ := Option.bind_eq_some_iff.1 he
      have hcell : ∃ c0 c1, W.cell? ((a.add (i * 2)).add 0) = some c0 ∧ W.cell? ((a.add (i * 2)).add 1) = some c1 ∧ cs = [c0, c1] := by
        unfold World.cells? at h1
        simp only [Nat.zero_le, if_true] at h1
        cases k0 : W.cell? ((a.add (i * 2)).add 0) with
        | none => simp [List.range, List.range.loop, k0] at h1
        | some c0 =>
          cases k1 : W.cell? ((a.add (i * 2)).add 1) with
          | none => simp [List.range, List.range.loop, k0, k1] at h1
          | some c1 =>
            simp [List.range, List.range.loop, k0, k1] at h1
            exact ⟨c0, c1, rfl, rfl, h1.symm⟩
      obtain ⟨c0, c1, hc0, hc1, rfl⟩ := hcell
      obtain ⟨xs, m, _, _, _, hxs, heach⟩ := DataW.trod_array Try.underlying42 h2
      have g0 := heach 0 (by omega)
      have g1 := heach 1 (by omega)
      rw [cells5, List.getElem?_eq_getElem (by omega)] at g0 g1
      obtain ⟨y, e0, _, w0⟩ := DataW.trod_int Try.underlying5 g0
      obtain ⟨z, e1, _, w1⟩ := DataW.trod_int Try.underlying5 g1
      simp at e0 e1
      subst e0 e1
      obtain ⟨y1, y2⟩ := bounds_u8 w0
      obtain ⟨z1, z2⟩ := bounds_u8 w1
      exact ⟨y, z, hc0, hc1, y1, y2, z1, z2⟩
    refine ⟨len, some a, cap, rfl, fun i hi => ?_⟩
    have hs : a.spot = none := by
      obtain ⟨_, _, h0, _⟩ := key 0 (by omega)
      have : ((a.add (0 * 2)).add 0) = a := by unfold Addr.add; simp
      rw [this] at h0
      exact addr_none h0
    obtain ⟨y, z, hc0, hc1, r⟩ := key i hi
    obtain ⟨b, o, s⟩ := a
    simp only at hs
    subst hs
    have ha0 : ((⟨b, o, none⟩ : Addr).add (i * 2)).add 0 = ⟨b, o + i * 2, none⟩ := by rw [add_none, add_none]; rfl
    have ha1 : ((⟨b, o, none⟩ : Addr).add (i * 2)).add 1 = ⟨b, o + i * 2 + 1, none⟩ := by rw [add_none, add_none]
    rw [ha0] at hc0
    rw [ha1] at hc1
    exact ⟨b, o, y, z, rfl, hc0, hc1, r⟩

set_option maxRecDepth 100000 in
theorem queueLine_lifted (os : Os) (started : os.Started) (H : Type) (enc : TypeId × Value → H) :
    ReturnsInHanded {} Try.checked os 4 .any (Rows.queueLineSpec.pre6 enc Try.prog Try.f4 Rows.queueLineRow.domain false) (Rows.queueLineSpec.post enc Try.prog Try.f4 false true false false) := by
  refine returnsInHanded_of_change (C := Try.checked) own started (by kernel_rfl) Try.func4
    (ChangeSpec.witness6 (enc := enc) (C := Try.checked) false ⟨#[], #[.int .u8 0, .slice none 0 0, .slice none 0 0], []⟩ 8 (by kernel_rfl) (by kernel_rfl) (by kernel_rfl) (by kernel_rfl)) ?_
  intro W base args ds gs before hval0 hW hcnd _
  have hval : ∀ (j : Nat) t v, Try.f4.params[j]? = some t → args[j]? = some v → Value.okWide Try.prog W .any base t v := hval0
  have hW' := hW
  obtain ⟨p, q, hA0, hV, rfl, hfz, hnd⟩ := hW
  have hA : DataW.TrodAll enc Try.prog W 0 (fun _ => true) true Try.f4.params.toList args.toList ds p := hA0
  rw [Try.params4] at hA hval
  obtain ⟨v0, v1, v2, d0, d1, d2, p0, p1, p2, rfl, rfl, rfl, h0, h1, h2⟩ := trodAll_three hA
  obtain ⟨rfl, rfl⟩ := trodVars_none hV
  clear hA0 hval0
  simp only [List.append_nil] at hW'
  have hok1 := hval 1 35 v1 rfl rfl
  have hok2 := hval 2 41 v2 rfl rfl
  obtain ⟨L, hL⟩ := SlI.came hok1 h1
  obtain ⟨nr, hR⟩ := PairI.came hok2 h2
  obtain ⟨mo, hv0, _, _, wmo⟩ := open_int Try.underlying5 (hval 0 5 v0 rfl rfl) h0
  subst hv0
  obtain ⟨m1, m2⟩ := bounds_u8 wmo
  have hlt : ∀ x ∈ p0 ++ (p1 ++ p2), x.block < W.heap.size := fun x hx => by
    have := hW'.lt x (by simpa using hx)
    simpa using this
  refine (line20 W mo v1 v2 L nr m1 m2 hL hR).mono fun e W' ⟨he, hg⟩ => ?_
  subst he
  exact ⟨_, rfl, post_of_below (pa := p0 ++ (p1 ++ p2)) (pv := []) hW' (fun _ _ _ => (trodAll_cons_mk (shut_bool Try.underlying4 _) trodAll_mk0))
    (fun sp hsp => by
      have hsp' : ∀ x ∈ p0 ++ (p1 ++ p2), sp x.block = true := fun x hx => hsp x (by simpa using hx)
      have t2 := trodAll_cons_mk (WideElems.Trod_stays laidOut (by kernel_rfl) (of_decide_eq_true (by kernel_rfl)) h2 (fun x hx => hg.same (hlt x (by simp [hx]))) (fun x hx => hsp' x (by simp [hx]))) (trodAll_mk0 (enc := enc) (P := Try.prog) (w := W') (base := 0) (spare := sp) (held := true))
      have t1 := trodAll_cons_mk (WideElems.Trod_stays laidOut (by kernel_rfl) (of_decide_eq_true (by kernel_rfl)) h1 (fun x hx => hg.same (hlt x (by simp [hx]))) (fun x hx => hsp' x (by simp [hx]))) t2
      have t0 := trodAll_cons_mk (WideElems.Trod_stays laidOut (by kernel_rfl) (of_decide_eq_true (by kernel_rfl)) h0 (fun x hx => hg.same (hlt x (by simp [hx]))) (fun x hx => hsp' x (by simp [hx]))) t1
      show DataW.TrodAll enc Try.prog W' 0 sp true [5, 35, 41] [_, v1, v2] [d0, d1, d2] (p0 ++ (p1 ++ p2))
      simpa using t0)
    (fun _ _ => rfl) (by simp) hg (ok_one (by kernel_rfl) rfl (okWide_bool_mk Try.underlying4 _))⟩

theorem queueLine_holds : Rows.QueueLineSaid :=
  OpenClaim.holds_of_wide 4 Try.f4 rfl rfl rfl rfl rfl rfl rfl ⟨rfl, rfl, rfl, rfl, rfl⟩ rfl rfl rfl rfl rfl (by kernel_rfl) Try.func4 (by kernel_rfl)
    (of_decide_eq_true (by kernel_rfl)) (by unfold Func.isWrapper; first | (rw [if_pos (by decide +kernel)]; kernel_rfl) | (rw [if_neg (by decide +kernel)]; exact ⟨rfl, rfl⟩))
    (fun os started H enc _ => queueLine_lifted os started H enc)
#print axioms queueLine_holds
end Go.Proofs.Ytjnekmdocbmofaa
