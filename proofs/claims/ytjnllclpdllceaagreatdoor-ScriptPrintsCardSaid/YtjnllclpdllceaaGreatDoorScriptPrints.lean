/- Any script's text is as the document says: for every script and draft the call returns true, and the arguments read as they did. The condition: the listed variables hold what the program's text lays. -/
import Derived.Test.YtjnllclpdllceaaGreatDoorFv
import Derived.Test.YtjnllclpdllceaaGreatDoorFs
import Derived.Test.YtjnllclpdllceaaGreatDoorPb
import Derived.Test.YtjnllclpdllceaaGreatDoorPc
import Derived.Test.YtjnllclpdllceaaGreatDoorCards
import Derived.Test.YtjnllclpdllceaaGreatDoorTie
import Derived.SevenTiedAt
import Derived.ChangeMaps5
namespace Go.Proofs.YtjnllclpdllceaaGreatDoor
set_option linter.unusedSimpArgs false
set_option linter.unusedVariables false
open Go.ChangeShapes Go.WideShapes Go.ChangeAt Go.RowKit

set_option maxRecDepth 100000 in
theorem scriptPrints_lifted (os : Os) (started : os.Started) (H : Type) (enc : TypeId × Value → H) :
    ReturnsInHanded {} Tryz.checked os 3 .any (fun w args => (Rows.scriptPrintsSpec.pre enc Tryz.prog Tryz.f3 [] false w args ∧ laidMetH Tryz.prog Rows.scriptBackRow.laid w) ∧ sizedMet enc Tryz.prog Tryz.f3 (OpenSpec.ofChange Rows.scriptPrintsSpec) false w args)
      (Rows.scriptPrintsSpec.post enc Tryz.prog Tryz.f3 false true false false) := by
  refine row_wrap (C := Tryz.checked) (X := fun w _ => laidMetH Tryz.prog Rows.scriptBackRow.laid w) (fun _ _ _ hh h => h.of_heap hh) own started (by kernel_rfl) Tryz.func3
    (ChangeSpec.witness_shaped (enc := enc) (C := Tryz.checked) (os := os) (X := fun w _ => laidMetH Tryz.prog Rows.scriptBackRow.laid w) false (laidWorld os) #[.agg (scriptA ⟨0, 0, 0, false, [], []⟩ (.slice none 0 0)), .agg (dcells 0 0 0 false (.slice none 0 0) (.slice none 0 0) 0)] 8 (laidWorld_os os)
      (World.shaped_of_ZipB (by kernel_rfl) (by kernel_rfl)) (by kernel_rfl) (by kernel_rfl) (by kernel_rfl) (laidWorld_met os _)) ?_
  intro W base args ds gs before hval0 hW hL hsh
  have hval : ∀ (j : Nat) t v, Tryz.f3.params[j]? = some t → args[j]? = some v → Value.okWide Tryz.prog W .any base t v := hval0
  have hW' := hW
  obtain ⟨p, q, hA0, hV, rfl, hfz, hnd⟩ := hW
  have hA : DataW.TrodAll enc Tryz.prog W 0 (fun _ => true) true Tryz.f3.params.toList args.toList ds p := hA0
  rw [Tryz.params3] at hA hval
  obtain ⟨v0, v1, d0, d1, p0, p1, rfl, rfl, rfl, h0, h1⟩ := trodAll_two hA
  obtain ⟨rfl, rfl⟩ := trodVars_none hV
  clear hA0 hval0
  simp only [List.append_nil] at hW'
  have hok0 := hval 0 26 v0 rfl rfl
  have hok1 := hval 1 31 v1 rfl rfl
  obtain ⟨s, pa, cap, rfl, hT, hc, hn, hmo⟩ := script_came hok0 h0
  obtain ⟨a0, a1, a2, odd, N, tw, mv, tv, l, rfl, k0, k1, k2, ko, hm, hl, ht, hN⟩ := draft_came hok1 h1
  have hlt : ∀ x ∈ p0 ++ p1, x.block < W.heap.size := fun x hx => by
    have := hW'.lt x (by simpa using hx)
    simpa using this
  have hb := prints_any (tw := tw) (odd := odd) hT hc (by unfold maxLen at hn; omega) (by unfold maxLen at hmo; omega) k0 k1 k2 ko hm (by unfold maxLen at hl; omega) ht (by unfold maxLen at hN; omega) (Laid.of hL) (Mx.of hsh) (ET.of hL)
  refine hb.mono fun e W' ⟨he, hg⟩ => ?_
  subst he
  have hbel := Turn.below hg
  exact ⟨_, rfl, post_of_below (pa := p0 ++ p1) (pv := []) hW' (fun _ _ _ => (trodAll_cons_mk (shut_bool Tryz.underlying4 _) trodAll_mk0))
    (fun sp hsp => by
      have hsp' : ∀ x ∈ p0 ++ p1, sp x.block = true := fun x hx => hsp x (by simpa using hx)
      have t1 := trodAll_cons_mk (WideElems.Trod_stays laidOut (by kernel_rfl) (of_decide_eq_true (by kernel_rfl)) h1 (fun x hx => hbel.same (hlt x (by simp [hx]))) (fun x hx => hsp' x (by simp [hx]))) (trodAll_mk0 (enc := enc) (P := Tryz.prog) (w := W') (base := 0) (spare := sp) (held := true))
      have t0 := trodAll_cons_mk (WideElems.Trod_stays laidOut (by kernel_rfl) (of_decide_eq_true (by kernel_rfl)) h0 (fun x hx => hbel.same (hlt x (by simp [hx]))) (fun x hx => hsp' x (by simp [hx]))) t1
      show DataW.TrodAll enc Tryz.prog W' 0 sp true [26, 31] [_, _] [d0, d1] (p0 ++ p1)
      simpa using t0)
    (fun _ _ => rfl) (by simp) hbel (ok_one (by kernel_rfl) rfl (okWide_bool_mk Tryz.underlying4 _))⟩

theorem scriptPrints_row : Rows.ScriptPrintsSaid :=
  OpenClaim.holds_of_wide 3 Tryz.f3 rfl rfl rfl rfl rfl rfl rfl ⟨rfl, rfl, rfl, rfl, rfl⟩ rfl rfl rfl rfl rfl (by kernel_rfl) Tryz.func3 (by kernel_rfl)
    (of_decide_eq_true (by kernel_rfl)) (by unfold Func.isWrapper; first | (rw [if_pos (by decide +kernel)]; kernel_rfl) | (rw [if_neg (by decide +kernel)]; exact ⟨rfl, rfl⟩))
    (fun os started H enc _ => scriptPrints_lifted os started H enc)

theorem scriptPrints_holds : Rows.ScriptPrintsCardSaid :=
  Claim7.holds_tied_plain_at .later [] [.data, .data, .data, .data, .handle, .sentinel, .sentinel, .pinned] true (true, "f4969d656ed1a4e288c73bdfa1dc34cc1096371d0ddab8bec62265e0eac7281d") true
    scriptPrints_row (fun _ h => by cases h) (by kernel_rfl) (fun _ h => by cases h) scriptPrints_row_tie rfl ⟨rfl, rfl⟩ (by kernel_rfl) rfl
    (fun f fn hf hfn => by
      obtain rfl : f = 3 := Option.some.inj ((show Tryz.prog.funcNamed "colloquy/colloquylaw32.ScriptPrints" = some 3 by kernel_rfl).symm.trans hf) |>.symm
      obtain rfl : fn = Tryz.f3 := (Option.some.inj (Tryz.func3.symm.trans hfn)).symm
      exact ⟨by kernel_rfl, fun j t ht => by
        rw [Tryz.params3] at ht
        have hm : t ∈ [26, 31] := by simpa using Array.mem_of_getElem? ht
        have hall : ([26, 31].all fun u => !Tryz.prog.wantsStandIn u) = true := by kernel_rfl
        exact (show Tryz.prog.wantsStandIn t = false by simpa using List.all_eq_true.1 hall t hm)⟩)
    (by kernel_rfl)
#print axioms scriptPrints_holds
end Go.Proofs.YtjnllclpdllceaaGreatDoor
