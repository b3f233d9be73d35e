/- Which event any text tells is as the document says, and that of an event's text of which one byte is another one: for every text, act and two bytes the call returns true, and the arguments read as they did. The condition: the listed variables hold what the program's text lays. -/
import Derived.Test.YtpbjblbeepbklaaGreatDoorKu
import Derived.Test.YtpbjblbeepbklaaGreatDoorLc
import Derived.Test.YtpbjblbeepbklaaGreatDoorCards
import Derived.Test.YtpbjblbeepbklaaGreatDoorTie
import Derived.SevenTiedAt
import Derived.ChangeMaps5
namespace Go.Proofs.YtpbjblbeepbklaaGreatDoor
set_option linter.unusedSimpArgs false
set_option linter.unusedVariables false
open Go.ChangeShapes Go.WideShapes Go.ChangeAt Go.RowKit

set_option maxRecDepth 100000 in
theorem namesReads_lifted (os : Os) (started : os.Started) (H : Type) (enc : TypeId × Value → H) :
    ReturnsInHanded {} Tryz.checked os 5 .any (fun w args => (Rows.namesReadsSpec.pre enc Tryz.prog Tryz.f5 [] false w args ∧ laidMetH Tryz.prog Rows.namesReadsRow.laid w) ∧ sizedMet enc Tryz.prog Tryz.f5 (OpenSpec.ofChange Rows.namesReadsSpec) false w args)
      (Rows.namesReadsSpec.post enc Tryz.prog Tryz.f5 false true false false) := by
  refine row_wrap (C := Tryz.checked) (X := fun w _ => laidMetH Tryz.prog Rows.namesReadsRow.laid w) (fun _ _ _ hh h => h.of_heap hh) own started (by kernel_rfl) Tryz.func5
    (ChangeSpec.witness_shaped (enc := enc) (C := Tryz.checked) (os := os) (X := fun w _ => laidMetH Tryz.prog Rows.namesReadsRow.laid w) false (laidWorld os) #[.string ⟨#[]⟩, .agg #[.int .u8 0, .slice none 0 0, .slice none 0 0, .slice none 0 0, .int .u8 0, .int .u8 0, .int .i64 0, .int .u8 0], .agg #[.int .u8 0, .int .u8 0]] 8 (laidWorld_os os)
      (World.shaped_of_ZipB (by kernel_rfl) (by kernel_rfl)) (by kernel_rfl) (by kernel_rfl) (by kernel_rfl) (laidWorld_met os _)) ?_
  intro W base args ds gs before hval0 hW hL hsh
  have hval : ∀ (j : Nat) t v, Tryz.f5.params[j]? = some t → args[j]? = some v → Value.okWide Tryz.prog W .any base t v := hval0
  have hW' := hW
  obtain ⟨p, q, hA0, hV, rfl, hfz, hnd⟩ := hW
  have hA : DataW.TrodAll enc Tryz.prog W 0 (fun _ => true) true Tryz.f5.params.toList args.toList ds p := hA0
  rw [Tryz.params5] at hA hval
  obtain ⟨v0, v1, v2, d0, d1, d2, p0, p1, p2, rfl, rfl, rfl, h0, h1, h2⟩ := trodAll_three hA
  obtain ⟨rfl, rfl⟩ := trodVars_none hV
  clear hA0 hval0
  simp only [List.append_nil] at hW'
  have hok0 := hval 0 9 v0 rfl rfl
  have hok1 := hval 1 36 v1 rfl rfl
  have hok2 := hval 2 42 v2 rfl rfl
  obtain ⟨a, rfl, _, _, ha⟩ := Go.ChangeMaps.open_string Tryz.underlying9 hok0 h0
  obtain ⟨x, va, vc, vn, rfl, hx2, sa, sc, sn⟩ := act_came hok1 h1
  obtain ⟨y0, y1, rfl⟩ := pair_came hok2 h2
  have hlt : ∀ x ∈ p0 ++ (p1 ++ p2), x.block < W.heap.size := fun x hx => by
    have := hW'.lt x (by simpa using hx)
    simpa using this
  have hc := reads_any (s := a.data.toList) (a := y0) (b := y1) (Laid.of hL hsh) hx2 sa sc sn (by have := ha; unfold maxLen at this; simp; omega)
  rw [bt_data] at hc
  refine hc.mono fun e W' ⟨he, hg⟩ => ?_
  subst he
  have hbel := Turn.below hg
  exact ⟨_, rfl, post_of_below (pa := p0 ++ (p1 ++ p2)) (pv := []) hW' (fun _ _ _ => (trodAll_cons_mk (shut_bool Tryz.underlying4 _) trodAll_mk0))
    (fun sp hsp => by
      have hsp' : ∀ x ∈ p0 ++ (p1 ++ p2), sp x.block = true := fun x hx => hsp x (by simpa using hx)
      have t2 := trodAll_cons_mk (WideElems.Trod_stays laidOut (by kernel_rfl) (of_decide_eq_true (by kernel_rfl)) h2 (fun x hx => hbel.same (hlt x (by simp [hx]))) (fun x hx => hsp' x (by simp [hx]))) (trodAll_mk0 (enc := enc) (P := Tryz.prog) (w := W') (base := 0) (spare := sp) (held := true))
      have t1 := trodAll_cons_mk (WideElems.Trod_stays laidOut (by kernel_rfl) (of_decide_eq_true (by kernel_rfl)) h1 (fun x hx => hbel.same (hlt x (by simp [hx]))) (fun x hx => hsp' x (by simp [hx]))) t2
      have t0 := trodAll_cons_mk (WideElems.Trod_stays laidOut (by kernel_rfl) (of_decide_eq_true (by kernel_rfl)) h0 (fun x hx => hbel.same (hlt x (by simp [hx]))) (fun x hx => hsp' x (by simp [hx]))) t1
      show DataW.TrodAll enc Tryz.prog W' 0 sp true [9, 36, 42] [_, _, _] [_, _, _] (p0 ++ (p1 ++ p2))
      simpa using t0)
    (fun _ _ => rfl) (by simp) hbel (ok_one (by kernel_rfl) rfl (okWide_bool_mk Tryz.underlying4 _))⟩

theorem namesReads_row : Rows.NamesReadsSaid :=
  OpenClaim.holds_of_wide 5 Tryz.f5 rfl rfl rfl rfl rfl rfl rfl ⟨rfl, rfl, rfl, rfl, rfl⟩ rfl rfl rfl rfl rfl (by kernel_rfl) Tryz.func5 (by kernel_rfl)
    (of_decide_eq_true (by kernel_rfl)) (by unfold Func.isWrapper; first | (rw [if_pos (by decide +kernel)]; kernel_rfl) | (rw [if_neg (by decide +kernel)]; exact ⟨rfl, rfl⟩))
    (fun os started H enc _ => namesReads_lifted os started H enc)

theorem namesReads_holds : Rows.NamesReadsCardSaid :=
  Claim7.holds_tied_plain_at .later [] [.data, .data, .data, .data, .sentinel, .sentinel, .pinned] true (true, "0f8d7cc1366c6475ecb36859e219df16e1f0d03ac0c93f34ba637c386be4718a") true
    namesReads_row (fun _ h => by cases h) (by kernel_rfl) (fun _ h => by cases h) namesReads_row_tie rfl ⟨rfl, rfl⟩ (by kernel_rfl) rfl
    (fun f fn hf hfn => by
      obtain rfl : f = 5 := Option.some.inj ((show Tryz.prog.funcNamed "colloquy/colloquylaw26.NamesReads" = some 5 by kernel_rfl).symm.trans hf) |>.symm
      obtain rfl : fn = Tryz.f5 := (Option.some.inj (Tryz.func5.symm.trans hfn)).symm
      exact ⟨by kernel_rfl, fun j t ht => by
        rw [Tryz.params5] at ht
        have hm : t ∈ [9, 36, 42] := by simpa using Array.mem_of_getElem? ht
        have hall : ([9, 36, 42].all fun u => !Tryz.prog.wantsStandIn u) = true := by kernel_rfl
        exact (show Tryz.prog.wantsStandIn t = false by simpa using List.all_eq_true.1 hall t hm)⟩)
    (by kernel_rfl)
#print axioms namesReads_holds
end Go.Proofs.YtpbjblbeepbklaaGreatDoor
