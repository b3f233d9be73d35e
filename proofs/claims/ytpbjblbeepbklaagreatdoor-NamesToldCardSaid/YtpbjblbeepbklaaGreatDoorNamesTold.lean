/- What any two texts are, of names, is as the document says, as they stand, and as names are made of numbers: for every two texts and two slices of bytes the call returns true, and the arguments read as they did. The condition: the listed variables hold what the program's text lays. -/
import Derived.Test.YtpbjblbeepbklaaGreatDoorKu
import Derived.Test.YtpbjblbeepbklaaGreatDoorKz
import Derived.Test.YtpbjblbeepbklaaGreatDoorCards
import Derived.Test.YtpbjblbeepbklaaGreatDoorTie
import Derived.SevenTiedAt
import Derived.ChangeMaps5
namespace Go.Proofs.YtpbjblbeepbklaaGreatDoor
set_option linter.unusedSimpArgs false
set_option linter.unusedVariables false
open Go.ChangeShapes Go.WideShapes Go.ChangeAt Go.RowKit

set_option maxRecDepth 100000 in
theorem namesTold_lifted (os : Os) (started : os.Started) (H : Type) (enc : TypeId × Value → H) :
    ReturnsInHanded {} Tryz.checked os 3 .any (fun w args => (Rows.namesToldSpec.pre enc Tryz.prog Tryz.f3 [] false w args ∧ laidMetH Tryz.prog Rows.namesToldRow.laid w) ∧ sizedMet enc Tryz.prog Tryz.f3 (OpenSpec.ofChange Rows.namesToldSpec) false w args)
      (Rows.namesToldSpec.post enc Tryz.prog Tryz.f3 false true false false) := by
  refine row_wrap (C := Tryz.checked) (X := fun w _ => laidMetH Tryz.prog Rows.namesToldRow.laid w) (fun _ _ _ hh h => h.of_heap hh) own started (by kernel_rfl) Tryz.func3
    (ChangeSpec.witness_shaped (enc := enc) (C := Tryz.checked) (os := os) (X := fun w _ => laidMetH Tryz.prog Rows.namesToldRow.laid w) false (laidWorld os) #[.string ⟨#[]⟩, .string ⟨#[]⟩, .agg #[.slice none 0 0, .slice none 0 0]] 8 (laidWorld_os os)
      (World.shaped_of_ZipB (by kernel_rfl) (by kernel_rfl)) (by kernel_rfl) (by kernel_rfl) (by kernel_rfl) (laidWorld_met os _)) ?_
  intro W base args ds gs before hval0 hW hL hsh
  have hval : ∀ (j : Nat) t v, Tryz.f3.params[j]? = some t → args[j]? = some v → Value.okWide Tryz.prog W .any base t v := hval0
  have hW' := hW
  obtain ⟨p, q, hA0, hV, rfl, hfz, hnd⟩ := hW
  have hA : DataW.TrodAll enc Tryz.prog W 0 (fun _ => true) true Tryz.f3.params.toList args.toList ds p := hA0
  rw [Tryz.params3] at hA hval
  obtain ⟨v0, v1, v2, d0, d1, d2, p0, p1, p2, rfl, rfl, rfl, h0, h1, h2⟩ := trodAll_three hA
  obtain ⟨rfl, rfl⟩ := trodVars_none hV
  clear hA0 hval0
  simp only [List.append_nil] at hW'
  have hok0 := hval 0 9 v0 rfl rfl
  have hok1 := hval 1 9 v1 rfl rfl
  have hok2 := hval 2 23 v2 rfl rfl
  obtain ⟨a, rfl, _, _, ha⟩ := Go.ChangeMaps.open_string Tryz.underlying9 hok0 h0
  obtain ⟨b, rfl, _, _, hb⟩ := Go.ChangeMaps.open_string Tryz.underlying9 hok1 h1
  obtain ⟨va, vb, l0, l1, rfl, sa, sb⟩ := two_came hok2 h2
  have hlt : ∀ x ∈ p0 ++ (p1 ++ p2), x.block < W.heap.size := fun x hx => by
    have := hW'.lt x (by simpa using hx)
    simpa using this
  have hc := told_any (a := a.data.toList) (b := b.data.toList) (Laid.of hL hsh) sa sb (by have := ha; unfold maxLen at this; simp; omega) (by have := hb; unfold maxLen at this; simp; omega)
  rw [bt_data, bt_data] at hc
  refine hc.mono fun e W' ⟨he, hg⟩ => ?_
  subst he
  have hbel := Turn.below hg
  exact ⟨_, rfl, post_of_below (pa := p0 ++ (p1 ++ p2)) (pv := []) hW' (fun _ _ _ => (trodAll_cons_mk (shut_bool Tryz.underlying4 _) trodAll_mk0))
    (fun sp hsp => by
      have hsp' : ∀ x ∈ p0 ++ (p1 ++ p2), sp x.block = true := fun x hx => hsp x (by simpa using hx)
      have t2 := trodAll_cons_mk (WideElems.Trod_stays laidOut (by kernel_rfl) (of_decide_eq_true (by kernel_rfl)) h2 (fun x hx => hbel.same (hlt x (by simp [hx]))) (fun x hx => hsp' x (by simp [hx]))) (trodAll_mk0 (enc := enc) (P := Tryz.prog) (w := W') (base := 0) (spare := sp) (held := true))
      have t1 := trodAll_cons_mk (WideElems.Trod_stays laidOut (by kernel_rfl) (of_decide_eq_true (by kernel_rfl)) h1 (fun x hx => hbel.same (hlt x (by simp [hx]))) (fun x hx => hsp' x (by simp [hx]))) t2
      have t0 := trodAll_cons_mk (WideElems.Trod_stays laidOut (by kernel_rfl) (of_decide_eq_true (by kernel_rfl)) h0 (fun x hx => hbel.same (hlt x (by simp [hx]))) (fun x hx => hsp' x (by simp [hx]))) t1
      show DataW.TrodAll enc Tryz.prog W' 0 sp true [9, 9, 23] [_, _, _] [_, _, _] (p0 ++ (p1 ++ p2))
      simpa using t0)
    (fun _ _ => rfl) (by simp) hbel (ok_one (by kernel_rfl) rfl (okWide_bool_mk Tryz.underlying4 _))⟩

theorem namesTold_row : Rows.NamesToldSaid :=
  OpenClaim.holds_of_wide 3 Tryz.f3 rfl rfl rfl rfl rfl rfl rfl ⟨rfl, rfl, rfl, rfl, rfl⟩ rfl rfl rfl rfl rfl (by kernel_rfl) Tryz.func3 (by kernel_rfl)
    (of_decide_eq_true (by kernel_rfl)) (by unfold Func.isWrapper; first | (rw [if_pos (by decide +kernel)]; kernel_rfl) | (rw [if_neg (by decide +kernel)]; exact ⟨rfl, rfl⟩))
    (fun os started H enc _ => namesTold_lifted os started H enc)

theorem namesTold_holds : Rows.NamesToldCardSaid :=
  Claim7.holds_tied_plain_at .later [] [.data, .data, .data, .data, .sentinel, .sentinel, .pinned] true (true, "0f8d7cc1366c6475ecb36859e219df16e1f0d03ac0c93f34ba637c386be4718a") true
    namesTold_row (fun _ h => by cases h) (by kernel_rfl) (fun _ h => by cases h) namesTold_row_tie rfl ⟨rfl, rfl⟩ (by kernel_rfl) rfl
    (fun f fn hf hfn => by
      obtain rfl : f = 3 := Option.some.inj ((show Tryz.prog.funcNamed "colloquy/colloquylaw26.NamesTold" = some 3 by kernel_rfl).symm.trans hf) |>.symm
      obtain rfl : fn = Tryz.f3 := (Option.some.inj (Tryz.func3.symm.trans hfn)).symm
      exact ⟨by kernel_rfl, fun j t ht => by
        rw [Tryz.params3] at ht
        have hm : t ∈ [9, 9, 23] := by simpa using Array.mem_of_getElem? ht
        have hall : ([9, 9, 23].all fun u => !Tryz.prog.wantsStandIn u) = true := by kernel_rfl
        exact (show Tryz.prog.wantsStandIn t = false by simpa using List.all_eq_true.1 hall t hm)⟩)
    (by kernel_rfl)
#print axioms namesTold_holds
end Go.Proofs.YtpbjblbeepbklaaGreatDoor
