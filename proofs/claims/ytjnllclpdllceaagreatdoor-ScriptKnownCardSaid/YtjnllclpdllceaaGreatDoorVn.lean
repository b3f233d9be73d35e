/- works. -/
import Derived.Test.YtjnllclpdllceaaGreatDoorVm
import Derived.Test.YtjnllclpdllceaaGreatDoorVk
import Derived.Test.YtjnllclpdllceaaGreatDoorVg
import Derived.Test.YtjnllclpdllceaaGreatDoorSx
import Derived.Deep.DeepCutAuto
namespace Go.Proofs.YtjnllclpdllceaaGreatDoor
set_option linter.unusedSimpArgs false
set_option linter.unusedVariables false
open Go.RowKit Go.Shelf

theorem wk_lit : BT (wkT, (0 : Int)).1 = ⟨#[109, 97, 99, 104, 105, 110, 101, 32, 56, 32, 52, 32, 50, 10, 98, 121, 116, 101, 115, 32, 52, 51, 52, 99, 53, 49, 53, 57, 10, 112, 105, 99, 107, 32, 48, 32, 51, 10, 114, 111, 117, 110, 100, 32, 49, 48, 10, 114, 111, 119, 115, 10]⟩ := rfl

set_option maxRecDepth 100000 in
set_option maxHeartbeats 8000000 in
theorem works_any {w : World} (hl : Laid w) (hm : Mx w) (he : ET w) : Calls Tryz.prog 11 #[] w fun e w' => e = .returned (.bool true) ∧ Turn Nn w w' := by
  have P1 : ∀ W, Turn Nn w W → Calls Tryz.prog 14 #[.string (BT wkT)] W (ParsePost W wkT) := fun W t => parse_any wkT (hl.turn t) (hm.turn t) (by decide)
  have P2 : ∀ W, Turn Nn w W → Calls Tryz.prog 14 #[.string (BT wkU)] W (ParsePost W wkU) := fun W t => parse_any wkU (hl.turn t) (hm.turn t) (by decide)
  have HP1 := Lib.hid P1
  have HP2 := Lib.hid P2
  have HL := Lib.hid hl
  have HE := Lib.hid he
  clear P1 P2 hl he hm
  go_enter Tryz.func11, Tryz.ntmps11
  go_wp2_with fail
  generalize hW : World.alloc (World.alloc w _) _ = w1
  obtain ⟨b0, b1, t1⟩ := alloc2 hW
  have B0 := Lib.hid b0
  have B1 := Lib.hid b1
  have T1 := Lib.hid t1
  clear hW b0 b1 t1
  refine (HP1.out w1 T1.out).mono ?_
  rintro e w2 ⟨hp, t2⟩
  rw [wk_parse] at hp
  obtain ⟨v, rfl, ho⟩ := hp
  obtain ⟨pv, nv, cv, rfl⟩ : ∃ pv nv cv, v = .slice pv nv cv := by
    rcases ho.2 with ⟨e, _⟩ | ⟨_, _, _, e, _⟩
    · exact ⟨_, _, _, e⟩
    · exact ⟨_, _, _, e⟩
  have V2 := Lib.hid (TSl.own ho)
  have T2 := Lib.hid t2
  clear ho t2
  simp only [scriptV, wkS]
  go_upto_region 3 with (fail)
  generalize hW : World.alloc w2 _ = w3
  obtain ⟨b3, t3⟩ := alloc1 hW
  have C3 := Lib.hid b3
  have T3 := Lib.hid t3
  clear hW b3 t3
  have T13 := Lib.hid (T2.out.trans T3.out)
  have V1 : Hid (TSl w1 (.slice (some ⟨w.heap.size, 0, none⟩) 3 3) wkS.turns) := Lib.hid (.inr ⟨w.heap.size, 0, 3, rfl, Nat.le_refl _, fun i hi => by
    have hi : i < 3 := hi
    rcases i with _ | _ | _ | i
    · exact ⟨by rw [cell_blk B0.out]; rfl, by rw [cell_blk B0.out]; rfl, by rw [cell_blk B0.out]; rfl⟩
    · exact ⟨by rw [cell_blk B0.out]; rfl, by rw [cell_blk B0.out]; rfl, by rw [cell_blk B0.out]; rfl⟩
    · exact ⟨by rw [cell_blk B0.out]; rfl, by rw [cell_blk B0.out]; rfl, by rw [cell_blk B0.out]; rfl⟩
    · omega⟩)
  obtain ⟨g0, g1, g2, g3, g4, g5⟩ := cells6 ((T13.out.block _ (heap_lt B1.out) (fun h => h)).trans B1.out)
  go_wp2_with fail
  clear g0 g1 g2 g3 g4 g5
  have PR := print_any (s := wkS) (HL.out.turn (T1.out.trans T13.out)) (V1.out.turn T13.out) (by decide) (by decide)
  refine PR.mono ?_
  rintro e w4 ⟨rfl, t4⟩
  rw [wk_print, wk_lit]
  have T4 := Lib.hid (T13.out.trans t4)
  have T34 := Lib.hid t4
  clear t4 PR
  go_wp2_with fail
  refine (HP2.out w4 (T1.out.trans T4.out)).mono ?_
  rintro e w5 ⟨hp, t5⟩
  rw [wk_fault] at hp
  obtain ⟨f, rfl, hf, _⟩ := hp
  have HF := Lib.hid hf
  have T5 := Lib.hid t5
  clear hf t5
  simp only [sZero]
  go_upto_region 5 with (fail)
  generalize hW : World.alloc w5 _ = w6
  obtain ⟨_, t6⟩ := alloc1 hW
  have T6 := Lib.hid (T5.out.trans t6)
  have HF6 := Lib.hid ((t6.block _ (heap_lt HF.out) (fun h => h)).trans HF.out)
  clear hW t6
  have T16 := Lib.hid (T4.out.trans T6.out)
  have T36 := Lib.hid (T34.out.trans T6.out)
  obtain ⟨g0, g1, g2, g3, g4, g5⟩ := cells6 ((T16.out.block _ (heap_lt B1.out) (fun h => h)).trans B1.out)
  obtain ⟨d0, d1, d2, d3, d4, d5⟩ := cells6 ((T36.out.block _ (heap_lt C3.out) (fun h => h)).trans C3.out)
  have V2a := Lib.hid (V2.out.turn (T3.out.trans T36.out))
  have V1a := Lib.hid (V1.out.turn T16.out)
  go_wp2_with fail
  refine (same_any (s := wkS) V2a.out V1a.out (by decide)).mono ?_
  rintro e w7 ⟨rfl, t7⟩
  have T7 := Lib.hid t7
  clear t7 g0 g1 g2 g3 g4 g5 d0 d1 d2 d3 d4 d5
  go_wp2_with fail
  refine (told_fault 2 1 (by decide) (HE.out.turn ((T1.out.trans T16.out).trans T7.out)) ((T7.out.block _ (heap_lt HF6.out) (fun h => h)).trans HF6.out)).mono ?_
  rintro e w8 ⟨rfl, t8⟩
  have T8 := Lib.hid t8
  clear t8
  go_wp2_with fail
  go_ret
  exact ⟨rfl, ((T1.out.trans T16.out).trans T7.out).trans T8.out⟩
end Go.Proofs.YtjnllclpdllceaaGreatDoor
