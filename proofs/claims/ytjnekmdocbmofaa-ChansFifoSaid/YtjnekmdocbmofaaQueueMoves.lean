/- Whatever comes and goes, the queue answers, and has, what the document says: for every size and list of moves the call returns true, and the arguments read as they did. No conditions. -/
import Derived.Test.YtjnekmdocbmofaaQueueLine
import Derived.Test.YtjnekmdocbmofaaQp
namespace Go.Proofs.Ytjnekmdocbmofaa
set_option linter.unusedSimpArgs false
set_option linter.unusedVariables false
open Go.ChangeShapes Go.WideShapes Go.ChangeAt Go.RowKit

theorem cells29 : Try.prog.cellsOf 29 = 2 := by kernel_rfl
theorem cells4 : Try.prog.cellsOf 4 = 1 := by kernel_rfl

theorem move_struct : ∃ f0 f1 : Field, Try.prog.underlying 29 = some (.struct #[f0, f1]) ∧ f0.type = 4 ∧ f0.offset = 0 ∧ f1.type = 2 ∧ f1.offset = 1 :=
  ⟨_, _, Try.underlying29, rfl, rfl, rfl, rfl⟩

/-- A slice of moves that came in. -/
theorem MovI.came {H : Type} {enc : TypeId × Value → H} {W : World} {base : Nat} {v : Value} {d : DataW H} {ps : List MemPlace}
    (hv : Value.okWide Try.prog W .any base 22 v) (h : DataW.Trod enc Try.prog W 0 (fun _ => true) true 22 v d ps) : ∃ n, MovI W v n := by
  obtain ⟨a0, len, cap, rfl⟩ := okWide_slice Try.underlying22 hv
  obtain ⟨fuel, hf⟩ := h
  rcases DataW.trod_slice Try.underlying22 hf with ⟨hcs, hx⟩ | ⟨a, len', cap', elems, rest, n, _, hcs, _, hb, hl, hm, hlen, hel, _, _⟩
  · simp [Value.cells] at hcs
    obtain ⟨rfl, rfl, rfl⟩ := hcs
    exact ⟨0, none, 0, rfl, fun i hi => by omega⟩
  · simp [Value.cells] at hcs
    obtain ⟨rfl, rfl, rfl⟩ := hcs
    have key : ∀ i, i < len → ∃ (y : Bool) (z : Int), W.cell? ((a.add (i * 2)).add 0) = some (.bool y) ∧ W.cell? ((a.add (i * 2)).add 1) = some (.int .i64 z) := fun i hi => by
      have he := hel i hi
      rw [List.getElem?_eq_getElem (by omega), cells29] at he
      obtain ⟨cs, h1, h2⟩ := Option.bind_eq_some_iff.1 he
      have hcell : ∃ c0 c1, W.cell? ((a.add (i * 2)).add 0) = some c0 ∧ W.cell? ((a.add (i * 2)).add 1) = some c1 ∧ cs = [c0, c1] := by
        unfold World.cells? at h1
        simp only [Nat.zero_le, if_true] at h1
        cases k0 : W.cell? ((a.add (i * 2)).add 0) with
        | none => simp [List.range, List.range.loop, k0] at h1
        | some c0 =>
          cases k1 : W.cell? ((a.add (i * 2)).add 1) with
          | none => simp [List.range, List.range.loop, k0, k1] at h1
          | some c1 =>
            simp [List.range, List.range.loop, k0, k1] at h1
            exact ⟨c0, c1, rfl, rfl, h1.symm⟩
      obtain ⟨c0, c1, hc0, hc1, rfl⟩ := hcell
      obtain ⟨f0, f1, hu, e1, e2, e3, e4⟩ := move_struct
      obtain ⟨y0, y1, m, _, _, g0, g1⟩ := trod_struct2 hu h2
      rw [e1, e2, cells4] at g0
      rw [e3, e4, cells2] at g1
      obtain ⟨y, q0, _⟩ := DataW.trod_bool Try.underlying4 g0
      obtain ⟨z, q1, _, _⟩ := DataW.trod_int Try.underlying2 g1
      simp at q0 q1
      subst q0 q1
      exact ⟨y, z, hc0, hc1⟩
    refine ⟨len, some a, cap, rfl, fun i hi => ?_⟩
    have hs : a.spot = none := by
      obtain ⟨_, _, h0, _⟩ := key 0 (by omega)
      have : ((a.add (0 * 2)).add 0) = a := by unfold Addr.add; simp
      rw [this] at h0
      exact addr_none h0
    obtain ⟨y, z, hc0, hc1⟩ := key i hi
    obtain ⟨b, o, s⟩ := a
    simp only at hs
    subst hs
    have ha0 : ((⟨b, o, none⟩ : Addr).add (i * 2)).add 0 = ⟨b, o + i * 2, none⟩ := by rw [add_none, add_none]; rfl
    have ha1 : ((⟨b, o, none⟩ : Addr).add (i * 2)).add 1 = ⟨b, o + i * 2 + 1, none⟩ := by rw [add_none, add_none]
    rw [ha0] at hc0
    rw [ha1] at hc1
    exact ⟨b, o, y, z, rfl, hc0, hc1⟩

theorem moves20 (w : World) (m : Int) (vl : Value) (nl : Nat) (hl : MovI w vl nl) :
    Calls Try.prog 3 #[.int .i64 m, vl] w fun e w' => e = .returned (.bool true) ∧ Below w.heap.size w w' := by
  by_cases h : m ≤ 0 ∨ 16 < m
  · exact moves20_bad w m vl h
  · obtain ⟨k, rfl⟩ : ∃ k : Nat, m = k := ⟨m.toNat, by omega⟩
    exact moves20_ok w k vl nl (by omega) (by omega) hl

set_option maxRecDepth 100000 in
theorem queueMoves_lifted (os : Os) (started : os.Started) (H : Type) (enc : TypeId × Value → H) :
    ReturnsInHanded {} Try.checked os 3 .any (Rows.queueMovesSpec.pre6 enc Try.prog Try.f3 Rows.queueMovesRow.domain false) (Rows.queueMovesSpec.post enc Try.prog Try.f3 false true false false) := by
  refine returnsInHanded_of_change (C := Try.checked) own started (by kernel_rfl) Try.func3
    (ChangeSpec.witness6 (enc := enc) (C := Try.checked) false ⟨#[], #[.int .i64 0, .slice none 0 0], []⟩ 8 (by kernel_rfl) (by kernel_rfl) (by kernel_rfl) (by kernel_rfl)) ?_
  intro W base args ds gs before hval0 hW hcnd _
  have hval : ∀ (j : Nat) t v, Try.f3.params[j]? = some t → args[j]? = some v → Value.okWide Try.prog W .any base t v := hval0
  have hW' := hW
  obtain ⟨p, q, hA0, hV, rfl, hfz, hnd⟩ := hW
  have hA : DataW.TrodAll enc Try.prog W 0 (fun _ => true) true Try.f3.params.toList args.toList ds p := hA0
  rw [Try.params3] at hA hval
  obtain ⟨v0, v1, d0, d1, p0, p1, rfl, rfl, rfl, h0, h1⟩ := trodAll_two hA
  obtain ⟨rfl, rfl⟩ := trodVars_none hV
  clear hA0 hval0
  simp only [List.append_nil] at hW'
  obtain ⟨nl, hL⟩ := MovI.came (hval 1 22 v1 rfl rfl) h1
  obtain ⟨mo, hv0, _, _, wmo⟩ := open_int Try.underlying3 (hval 0 3 v0 rfl rfl) h0
  subst hv0
  have hlt : ∀ x ∈ p0 ++ p1, x.block < W.heap.size := fun x hx => by
    have := hW'.lt x (by simpa using hx)
    simpa using this
  refine (moves20 W mo v1 nl hL).mono fun e W' ⟨he, hg⟩ => ?_
  subst he
  exact ⟨_, rfl, post_of_below (pa := p0 ++ p1) (pv := []) hW' (fun _ _ _ => (trodAll_cons_mk (shut_bool Try.underlying4 _) trodAll_mk0))
    (fun sp hsp => by
      have hsp' : ∀ x ∈ p0 ++ p1, sp x.block = true := fun x hx => hsp x (by simpa using hx)
      have t1 := trodAll_cons_mk (WideElems.Trod_stays laidOut (by kernel_rfl) (of_decide_eq_true (by kernel_rfl)) h1 (fun x hx => hg.same (hlt x (by simp [hx]))) (fun x hx => hsp' x (by simp [hx]))) (trodAll_mk0 (enc := enc) (P := Try.prog) (w := W') (base := 0) (spare := sp) (held := true))
      have t0 := trodAll_cons_mk (WideElems.Trod_stays laidOut (by kernel_rfl) (of_decide_eq_true (by kernel_rfl)) h0 (fun x hx => hg.same (hlt x (by simp [hx]))) (fun x hx => hsp' x (by simp [hx]))) t1
      show DataW.TrodAll enc Try.prog W' 0 sp true [3, 22] [_, v1] [d0, d1] (p0 ++ p1)
      simpa using t0)
    (fun _ _ => rfl) (by simp) hg (ok_one (by kernel_rfl) rfl (okWide_bool_mk Try.underlying4 _))⟩

theorem queueMoves_holds : Rows.QueueMovesSaid :=
  OpenClaim.holds_of_wide 3 Try.f3 rfl rfl rfl rfl rfl rfl rfl ⟨rfl, rfl, rfl, rfl, rfl⟩ rfl rfl rfl rfl rfl (by kernel_rfl) Try.func3 (by kernel_rfl)
    (of_decide_eq_true (by kernel_rfl)) (by unfold Func.isWrapper; first | (rw [if_pos (by decide +kernel)]; kernel_rfl) | (rw [if_neg (by decide +kernel)]; exact ⟨rfl, rfl⟩))
    (fun os started H enc _ => queueMoves_lifted os started H enc)
#print axioms queueMoves_holds
end Go.Proofs.Ytjnekmdocbmofaa
