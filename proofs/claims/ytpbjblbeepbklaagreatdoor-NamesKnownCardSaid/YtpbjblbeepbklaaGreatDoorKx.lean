/- Plain: the closed examples of names. Printed by gen_za.py. The program's walks: NamesKnown. Printed by gen_zb.py. -/
import Derived.Test.YtpbjblbeepbklaaGreatDoorKp
import Derived.Test.YtpbjblbeepbklaaGreatDoorKs
import Derived.Test.YtpbjblbeepbklaaGreatDoorKw
import Derived.Deep.CutBlock
import Derived.Deep.CutRange
namespace Go.Proofs.YtpbjblbeepbklaaGreatDoor
section
set_option linter.unusedSimpArgs false
set_option linter.unusedVariables false
open Go.Lib

def exA : List Bs := [[48], [51, 46, 48, 46, 49, 50], [57, 57, 57, 57, 57, 57, 57, 57, 57], [48, 49], [99, 49], [49, 46], [], [46], [49, 46, 46, 50], [49, 48, 48, 48, 48, 48, 48, 48, 48, 48], [45, 49], [49, 46, 48, 50], [32, 49]]
def exC : List Bs := [[99, 51], [48, 46, 49, 43, 50], [99, 48], [48, 43], [99, 48, 49], [99], [43, 49], [49, 43, 50, 43, 51], [99, 49, 43, 48], [67, 49], [48, 46, 49], [49, 43, 48, 49]]
def exE : List Bs := [[99, 48, 58, 50], [99, 48, 58], [58, 48], [48, 58, 49], [99, 48], [99, 48, 58, 48, 49], [99, 48, 58, 49, 32], []]
def exT : List Bs := [[48, 32, 105, 100, 108, 101], [45, 52, 32, 105, 100, 108, 101], [51, 49, 32, 55, 64, 49, 50, 55, 32, 115, 105, 108, 101, 110, 116], [48, 32, 48, 64, 48, 32, 103, 111, 116, 32, 48, 43, 48, 58, 49, 32, 108, 97, 98, 101, 108, 32, 55], [48, 32, 49, 64, 48, 32, 111, 117, 116, 32, 45, 57, 50, 50, 51, 51, 55, 50, 48, 51, 54, 56, 53, 52, 55, 55, 53, 56, 48, 56], [48, 32, 49, 46, 48, 64, 48, 32, 109, 97, 100, 101, 32, 49, 46, 48, 43, 52], [48, 32, 49, 64, 48, 32, 115, 112, 97, 119, 110, 101, 100, 32, 49, 46, 51], [48, 32, 49, 64, 48, 32, 99, 108, 111, 115, 101, 100, 32, 99, 50, 58, 48], [48, 32, 49, 64, 48, 32, 104, 97, 108, 116, 101, 100], [48, 32, 49, 64, 48, 32, 116, 114, 97, 112]]
def exX : List Bs := [[], [32, 105, 100, 108, 101], [105, 100, 108, 101], [48, 32, 105, 100, 108, 101, 32], [48, 48, 32, 105, 100, 108, 101], [43, 49, 32, 105, 100, 108, 101], [57, 50, 50, 51, 51, 55, 50, 48, 51, 54, 56, 53, 52, 55, 55, 53, 56, 48, 56, 32, 105, 100, 108, 101], [48, 32, 48, 64, 48], [48, 32, 48, 64, 48, 32, 105, 100, 108, 101], [48, 32, 32, 48, 64, 48, 32, 104, 97, 108, 116, 101, 100], [48, 32, 48, 32, 104, 97, 108, 116, 101, 100], [48, 32, 48, 64, 32, 104, 97, 108, 116, 101, 100], [48, 32, 48, 64, 48, 48, 32, 104, 97, 108, 116, 101, 100], [48, 32, 64, 48, 32, 104, 97, 108, 116, 101, 100], [45, 49, 32, 48, 64, 48, 32, 104, 97, 108, 116, 101, 100], [48, 32, 48, 64, 45, 49, 32, 104, 97, 108, 116, 101, 100], [48, 32, 48, 64, 48, 32, 111, 117, 116], [48, 32, 48, 64, 48, 32, 111, 117, 116, 32, 43, 53], [48, 32, 48, 64, 48, 32, 111, 117, 116, 32, 48, 53], [48, 32, 48, 64, 48, 32, 111, 117, 116, 32, 45, 48], [48, 32, 48, 64, 48, 32, 111, 117, 116, 32, 57, 50, 50, 51, 51, 55, 50, 48, 51, 54, 56, 53, 52, 55, 55, 53, 56, 48, 56], [48, 32, 48, 64, 48, 32, 115, 101, 110, 116, 32, 99, 48, 58, 48], [48, 32, 48, 64, 48, 32, 115, 101, 110, 116, 32, 99, 48, 58, 48, 32, 119, 111, 114, 100], [48, 32, 48, 64, 48, 32, 115, 101, 110, 116, 32, 99, 48, 58, 48, 32, 119, 111, 114, 100, 32, 49, 32, 50], [48, 32, 48, 64, 48, 32, 115, 101, 110, 116, 32, 99, 48, 58, 48, 32, 101, 110, 100, 32, 49], [48, 32, 48, 64, 48, 32, 115, 101, 110, 116, 32, 99, 48, 58, 48, 32, 110, 111, 116, 101, 32, 49], [48, 32, 48, 64, 48, 32, 109, 97, 100, 101, 32, 99, 48], [48, 32, 99, 48, 64, 48, 32, 115, 105, 108, 101, 110, 116], [48, 32, 48, 64, 48, 32, 83, 105, 108, 101, 110, 116], [48, 32, 48, 64, 48, 32, 108, 97, 98, 101, 108, 32, 49], [48, 32, 48, 64, 48, 32, 115, 101, 110, 116, 32, 99, 48, 58, 48, 32, 108, 97, 98, 101, 108, 32, 56], [48, 32, 48, 64, 48, 64, 48, 32, 104, 97, 108, 116, 101, 100]]
def exR : List EventD := [⟨0, 0, [], 0, [], 0, 0, 0, []⟩, ⟨0, -4, [], 0, [], 0, 0, 0, []⟩, ⟨1, 31, [55], 127, [], 0, 0, 0, []⟩, ⟨3, 0, [48], 0, [48, 43, 48], 1, 1, 7, []⟩, ⟨4, 0, [49], 0, [], 0, 0, -9223372036854775808, []⟩, ⟨5, 0, [49, 46, 48], 0, [49, 46, 48, 43, 52], 0, 0, 0, []⟩, ⟨6, 0, [49], 0, [], 0, 0, 0, [49, 46, 51]⟩, ⟨7, 0, [49], 0, [99, 50], 0, 0, 0, []⟩, ⟨8, 0, [49], 0, [], 0, 0, 0, []⟩, ⟨9, 0, [49], 0, [], 0, 0, 0, []⟩]
def exB : List EventD := [⟨10, 0, [48], 0, [], 0, 0, 0, []⟩, ⟨1, -1, [48], 0, [], 0, 0, 0, []⟩, ⟨1, 0, [48], -1, [], 0, 0, 0, []⟩, ⟨0, 0, [], 1, [], 0, 0, 0, []⟩, ⟨0, 0, [48], 0, [], 0, 0, 0, []⟩, ⟨-1, 0, [48], 0, [], 0, 0, 0, []⟩, ⟨1, 0, [], 0, [], 0, 0, 0, []⟩, ⟨1, 0, [48, 49], 0, [], 0, 0, 0, []⟩, ⟨1, 0, [48], 0, [], 0, 0, 1, []⟩, ⟨0, 0, [], 0, [], 1, 0, 0, []⟩, ⟨2, 0, [48], 0, [99, 48], 2, 0, 0, []⟩, ⟨2, 0, [48], 0, [99, 48], 0, 3, 0, []⟩, ⟨2, 0, [48], 0, [99, 48], 0, 1, 8, []⟩, ⟨2, 0, [48], 0, [99, 48], 0, 1, -1, []⟩, ⟨2, 0, [48], 0, [99, 48], 0, 2, 0, [99, 48]⟩, ⟨2, 0, [48], 0, [99, 48], 0, 2, 1, [99, 48, 58, 48]⟩, ⟨2, 0, [48], 0, [99, 48], 0, 0, 0, [99, 48, 58, 48]⟩, ⟨2, 0, [48], 0, [], 0, 0, 0, []⟩, ⟨5, 0, [48], 0, [99, 48], 0, 0, 0, []⟩, ⟨5, 0, [48], 0, [49, 43, 48], 0, 0, 0, []⟩, ⟨6, 0, [48], 0, [], 0, 0, 0, [48, 46, 49, 46, 50]⟩, ⟨6, 0, [48], 0, [], 0, 0, 0, [49]⟩, ⟨7, 0, [48], 0, [99, 48], 0, 1, 0, []⟩]
def smallB (E : EventD) : Bool := decide (E.actor.length ≤ 1000 ∧ E.chan.length ≤ 1000 ∧ E.name.length ≤ 1000) && [E.slot, E.pc, E.word, E.side, E.kind, E.tag].all fun v => decide (-9223372036854775808 ≤ v ∧ v ≤ 9223372036854775807)
theorem smallB_yes {E : EventD} (h : smallB E = true) : ESmall E := by
  unfold smallB at h
  simp only [Bool.and_eq_true, List.all_cons, List.all_nil, decide_eq_true_eq, Bool.and_true] at h
  obtain ⟨⟨a, b, c⟩, d, e, f, g, i, j⟩ := h
  exact ⟨by omega, by omega, by omega, ⟨d, e, f⟩, g, i, j⟩
theorem exA_ok : ∀ k : Fin 13, actorL (exA[k.1]?.getD []) = decide (k.1 < 3) ∧ (exA[k.1]?.getD []).length ≤ 4000000 := by decide +kernel
theorem exC_ok : ∀ k : Fin 12, chanL (exC[k.1]?.getD []) = decide (k.1 < 3) ∧ (exC[k.1]?.getD []).length ≤ 4000000 := by decide +kernel
theorem exE_ok : ∀ k : Fin 8, endL (exE[k.1]?.getD []) = none ∧ (exE[k.1]?.getD []).length ≤ 4000000 := by decide +kernel
theorem exR_ok : ∀ k : Fin 10, textC (exR[k.1]?.getD zeroE) = (exT[k.1]?.getD [], 0) ∧ parseC (exT[k.1]?.getD []) = (exR[k.1]?.getD zeroE, 0) ∧ smallB (exR[k.1]?.getD zeroE) = true ∧ (exT[k.1]?.getD []).length ≤ 4000000 := by decide +kernel
theorem exB_ok : ∀ k : Fin 23, textC (exB[k.1]?.getD zeroE) = ([], 2) ∧ smallB (exB[k.1]?.getD zeroE) = true := by decide +kernel
theorem exX_ok : ∀ k : Fin 32, parseC (exX[k.1]?.getD []) = (zeroE, 5) ∧ (exX[k.1]?.getD []).length ≤ 4000000 := by decide +kernel
theorem exL0 : lessL [48] [48, 46, 48] = true := by decide +kernel
theorem exL1 : lessL [48, 46, 49, 48] [48, 46, 50] = false := by decide +kernel
theorem exL2 : lessL [99, 57] [48, 43, 48] = true := by decide +kernel
theorem exL3 : lessL [48, 43, 48] [99, 57] = false := by decide +kernel
theorem exL4 : lessL [99, 57] [99, 49, 48] = true := by decide +kernel
theorem exL5 : lessL [49, 43, 48] [48, 46, 53, 43, 48] = false := by decide +kernel
theorem exL6 : lessL [48, 43, 50] [48, 43, 49, 48] = true := by decide +kernel
theorem exL7 : lessL [48] [99, 48] = false := by decide +kernel
theorem exL8 : lessL [120] [121] = false := by decide +kernel
theorem exP0 : parentL [48, 46, 49, 43, 50] = [48, 46, 49] := by decide +kernel
theorem exP1 : parentL [99, 51] = [] := by decide +kernel
theorem exP2 : parentL [55] = [] := by decide +kernel
theorem exP3 : parentL [120, 46, 121] = [] := by decide +kernel
end
section
set_option linter.unusedSimpArgs false
set_option linter.unusedVariables false
open Go.RowKit Go.Shelf Go.Lib

theorem wpList_value {P : Program} {w w' : World} {ops : Array Oper} {rest : List Oper} {o : Oper} {a : Act} {Q : Exit → Act → World → Prop} {v : Value} (hg : o.guard = none) (he : (execOp a.eval o).run P w = .ok (.value v) w') (h : wpList P ops Q rest (a.put o.dst v) w') : wpList P ops Q (o :: rest) a w :=
  wpList_plain hg fun K hK => by
    unfold Oper.wp
    rw [he]
    exact hK _ _ h

set_option maxRecDepth 100000 in
set_option maxHeartbeats 40000000 in
theorem known_any {w : World} (hw : Laid w) : Calls Tryz.prog 8 #[] w fun e w' => e = .returned (.bool true) ∧ Turn Nn w w' := by
  have HW := Lib.hid hw
  clear hw
  obtain ⟨wA, eA⟩ : ∃ x, World.alloc w (.cells #[.string ⟨#[48]⟩, .string ⟨#[51, 46, 48, 46, 49, 50]⟩, .string ⟨#[57, 57, 57, 57, 57, 57, 57, 57, 57]⟩, .string ⟨#[48, 49]⟩, .string ⟨#[99, 49]⟩, .string ⟨#[49, 46]⟩, .string ⟨#[]⟩, .string ⟨#[46]⟩, .string ⟨#[49, 46, 46, 50]⟩, .string ⟨#[49, 48, 48, 48, 48, 48, 48, 48, 48, 48]⟩, .string ⟨#[45, 49]⟩, .string ⟨#[49, 46, 48, 50]⟩, .string ⟨#[32, 49]⟩] 9) = x := ⟨_, rfl⟩
  obtain ⟨bA, tA⟩ := alloc1 eA
  obtain ⟨qA, hqA⟩ : ∃ q, w.heap.size = q := ⟨_, rfl⟩
  rw [hqA] at bA
  have CA : Hid (∀ k : Nat, k < 13 → ∀ u : World, Turn Nn wA u → u.cell? ⟨qA, k, none⟩ = some (.string (BT (exA[k]?.getD [])))) := Lib.hid (by
    intro k hk u tu
    have hb := (tu.block _ (heap_lt bA) (fun h => h)).trans bA
    have hk2 : k = 0 ∨ k = 1 ∨ k = 2 ∨ k = 3 ∨ k = 4 ∨ k = 5 ∨ k = 6 ∨ k = 7 ∨ k = 8 ∨ k = 9 ∨ k = 10 ∨ k = 11 ∨ k = 12 := by omega
    clear hk tu bA
    rcases hk2 with rfl | rfl | rfl | rfl | rfl | rfl | rfl | rfl | rfl | rfl | rfl | rfl | rfl
    all_goals first
      | exact cell_blk hb
      | exact ⟨cell_blk hb, cell_blk hb, cell_blk hb, cell_blk hb, cell_blk hb, cell_blk hb, cell_blk hb, cell_blk hb, cell_blk hb⟩)
  have TA : Hid (Turn Nn w wA) := Lib.hid tA
  clear tA bA
  go_enter Tryz.func8, Tryz.ntmps8
  go_upto_block 0 with (fail)
  clear eA hqA
  go_cut [] from 28 to 38 (fun wx => Turn Nn w wx)
  case first =>
    go_wp2_with fail
    go_loopw [28] (fun i wr => ∃ k : Nat, k ≤ 13 ∧ i = .int .i64 k ∧ Turn Nn wA wr) (fun i _ => 13 - (intOf i).toNat)
    case atStart => exact ⟨0, by omega, rfl, Turn.refl _ _⟩
    case round =>
      obtain ⟨k, hk, rfl, ht⟩ := hrel
      have TK := Lib.hid ht
      clear ht
      by_cases hlt : k < 13
      · have hltI : (k : Int) < 13 := by omega
        have y := CA.out k hlt _ TK.out
        have hF := exA_ok ⟨k, hlt⟩
        have HC : Hid (∀ W, Turn Nn w W → Calls Tryz.prog 12 #[.string (BT (exA[k]?.getD []))] W fun e w' => e = .returned (.bool (decide ((k : Int) < 3))) ∧ Turn Nn W w') := Lib.hid (fun W t => by
          have h3 : decide (k < 3) = decide ((k : Int) < 3) := decide_eq_decide.2 (by omega)
          have := gives_actor (z := decide ((k : Int) < 3)) HW.out hF.2 (hF.1.trans h3)
          exact this W t)
        clear hF
        generalize BT (exA[k]?.getD []) = X at y HC
        go_wp2_with fail
        refine (HC.out _ (TA.out.trans TK.out)).mono ?_
        rintro e w4 ⟨rfl, t⟩
        have T4 := Lib.hid (TK.out.trans t)
        clear t
        go_wp2_with fail
        go_roundw
        case rel => exact ⟨k + 1, by omega, by go_num, T4.out⟩
        case measure => simp [intOf]; omega
      · obtain rfl : k = 13 := by omega
        go_wp2_with fail
        go_meet
        case rel => exact TA.out.trans TK.out
  case rest =>
    have TR1 : Hid (Turn Nn w wc) := Lib.hid hcut
    clear hcut
    generalize wc = v1 at TR1 ⊢
    obtain ⟨wC, eC⟩ : ∃ x, World.alloc v1 (.cells #[.string ⟨#[99, 51]⟩, .string ⟨#[48, 46, 49, 43, 50]⟩, .string ⟨#[99, 48]⟩, .string ⟨#[48, 43]⟩, .string ⟨#[99, 48, 49]⟩, .string ⟨#[99]⟩, .string ⟨#[43, 49]⟩, .string ⟨#[49, 43, 50, 43, 51]⟩, .string ⟨#[99, 49, 43, 48]⟩, .string ⟨#[67, 49]⟩, .string ⟨#[48, 46, 49]⟩, .string ⟨#[49, 43, 48, 49]⟩] 9) = x := ⟨_, rfl⟩
    obtain ⟨bC, tC⟩ := alloc1 eC
    obtain ⟨qC, hqC⟩ : ∃ q, v1.heap.size = q := ⟨_, rfl⟩
    rw [hqC] at bC
    have CC : Hid (∀ k : Nat, k < 12 → ∀ u : World, Turn Nn wC u → u.cell? ⟨qC, k, none⟩ = some (.string (BT (exC[k]?.getD [])))) := Lib.hid (by
      intro k hk u tu
      have hb := (tu.block _ (heap_lt bC) (fun h => h)).trans bC
      have hk2 : k = 0 ∨ k = 1 ∨ k = 2 ∨ k = 3 ∨ k = 4 ∨ k = 5 ∨ k = 6 ∨ k = 7 ∨ k = 8 ∨ k = 9 ∨ k = 10 ∨ k = 11 := by omega
      clear hk tu bC
      rcases hk2 with rfl | rfl | rfl | rfl | rfl | rfl | rfl | rfl | rfl | rfl | rfl | rfl
      all_goals first
        | exact cell_blk hb
        | exact ⟨cell_blk hb, cell_blk hb, cell_blk hb, cell_blk hb, cell_blk hb, cell_blk hb, cell_blk hb, cell_blk hb, cell_blk hb⟩)
    have TC : Hid (Turn Nn w wC) := Lib.hid (TR1.out.trans tC)
    clear tC bC
    go_upto_block 2 with (fail)
    clear eC hqC
    go_cut [] from 41 to 51 (fun wx => Turn Nn w wx)
    case first =>
      go_wp2_with fail
      go_loopw [41] (fun i wr => ∃ k : Nat, k ≤ 12 ∧ i = .int .i64 k ∧ Turn Nn wC wr) (fun i _ => 12 - (intOf i).toNat)
      case atStart => exact ⟨0, by omega, rfl, Turn.refl _ _⟩
      case round =>
        obtain ⟨k, hk, rfl, ht⟩ := hrel
        have TK := Lib.hid ht
        clear ht
        by_cases hlt : k < 12
        · have hltI : (k : Int) < 12 := by omega
          have y := CC.out k hlt _ TK.out
          have hF := exC_ok ⟨k, hlt⟩
          have HC : Hid (∀ W, Turn Nn w W → Calls Tryz.prog 14 #[.string (BT (exC[k]?.getD []))] W fun e w' => e = .returned (.bool (decide ((k : Int) < 3))) ∧ Turn Nn W w') := Lib.hid (fun W t => by
            have h3 : decide (k < 3) = decide ((k : Int) < 3) := decide_eq_decide.2 (by omega)
            have := gives_chan (z := decide ((k : Int) < 3)) HW.out hF.2 (hF.1.trans h3)
            exact this W t)
          clear hF
          generalize BT (exC[k]?.getD []) = X at y HC
          go_wp2_with fail
          refine (HC.out _ (TC.out.trans TK.out)).mono ?_
          rintro e w4 ⟨rfl, t⟩
          have T4 := Lib.hid (TK.out.trans t)
          clear t
          go_wp2_with fail
          go_roundw
          case rel => exact ⟨k + 1, by omega, by go_num, T4.out⟩
          case measure => simp [intOf]; omega
        · obtain rfl : k = 12 := by omega
          go_wp2_with fail
          go_meet
          case rel => exact TC.out.trans TK.out
    case rest =>
      have TR2 : Hid (Turn Nn w wc) := Lib.hid hcut
      clear hcut
      generalize wc = v2 at TR2 ⊢
      obtain ⟨wE, eE⟩ : ∃ x, World.alloc v2 (.cells #[.string ⟨#[99, 48, 58, 50]⟩, .string ⟨#[99, 48, 58]⟩, .string ⟨#[58, 48]⟩, .string ⟨#[48, 58, 49]⟩, .string ⟨#[99, 48]⟩, .string ⟨#[99, 48, 58, 48, 49]⟩, .string ⟨#[99, 48, 58, 49, 32]⟩, .string ⟨#[]⟩] 9) = x := ⟨_, rfl⟩
      obtain ⟨bE, tE⟩ := alloc1 eE
      obtain ⟨qE, hqE⟩ : ∃ q, v2.heap.size = q := ⟨_, rfl⟩
      rw [hqE] at bE
      have CE : Hid (∀ k : Nat, k < 8 → ∀ u : World, Turn Nn wE u → u.cell? ⟨qE, k, none⟩ = some (.string (BT (exE[k]?.getD [])))) := Lib.hid (by
        intro k hk u tu
        have hb := (tu.block _ (heap_lt bE) (fun h => h)).trans bE
        have hk2 : k = 0 ∨ k = 1 ∨ k = 2 ∨ k = 3 ∨ k = 4 ∨ k = 5 ∨ k = 6 ∨ k = 7 := by omega
        clear hk tu bE
        rcases hk2 with rfl | rfl | rfl | rfl | rfl | rfl | rfl | rfl
        all_goals first
          | exact cell_blk hb
          | exact ⟨cell_blk hb, cell_blk hb, cell_blk hb, cell_blk hb, cell_blk hb, cell_blk hb, cell_blk hb, cell_blk hb, cell_blk hb⟩)
      have TE : Hid (Turn Nn w wE) := Lib.hid (TR2.out.trans tE)
      clear tE bE
      go_upto_block 4 with (fail)
      clear eE hqE
      go_cut [] from 54 to 73 (fun wx => Turn Nn w wx)
      case first =>
        go_wp2_with fail
        go_loopw [54] (fun i wr => ∃ k : Nat, k ≤ 8 ∧ i = .int .i64 k ∧ Turn Nn wE wr) (fun i _ => 8 - (intOf i).toNat)
        case atStart => exact ⟨0, by omega, rfl, Turn.refl _ _⟩
        case round =>
          obtain ⟨k, hk, rfl, ht⟩ := hrel
          have TK := Lib.hid ht
          clear ht
          by_cases hlt : k < 8
          · have hltI : (k : Int) < 8 := by omega
            have y := CE.out k hlt _ TK.out
            have hF := exE_ok ⟨k, hlt⟩
            have HC : Hid (∀ W, Turn Nn w W → Calls Tryz.prog 10 #[.string (BT (exE[k]?.getD []))] W fun e w' => e = .returned (.tuple #[.string ⟨#[]⟩, .int .i64 0, .bool false]) ∧ Turn Nn W w') := Lib.hid (fun W t => by
              have := end_any hF.2 (HW.out.turn t)
              rw [endA_none hF.1] at this
              exact this)
            clear hF
            generalize BT (exE[k]?.getD []) = X at y HC
            go_wp2_with fail
            refine (HC.out _ (TE.out.trans TK.out)).mono ?_
            rintro e w4 ⟨rfl, t⟩
            have T4 := Lib.hid (TK.out.trans t)
            clear t
            go_wp2_with fail
            go_roundw
            case rel => exact ⟨k + 1, by omega, by go_num, T4.out⟩
            case measure => simp [intOf]; omega
          · obtain rfl : k = 8 := by omega
            go_wp2_with fail
            go_meet
            case rel => exact TE.out.trans TK.out
      case rest =>
        have TR3 : Hid (Turn Nn w wc) := Lib.hid hcut
        clear hcut
        generalize wc = v3 at TR3 ⊢
        obtain ⟨wR, eR⟩ : ∃ x, World.alloc v3 (.cells #[.int .i64 0, .int .i64 0, .string ⟨#[]⟩, .int .i64 0, .string ⟨#[]⟩, .int .i64 0, .int .i64 0, .int .i64 0, .string ⟨#[]⟩, .int .i64 0, .int .i64 (-4), .string ⟨#[]⟩, .int .i64 0, .string ⟨#[]⟩, .int .i64 0, .int .i64 0, .int .i64 0, .string ⟨#[]⟩, .int .i64 1, .int .i64 31, .string ⟨#[55]⟩, .int .i64 127, .string ⟨#[]⟩, .int .i64 0, .int .i64 0, .int .i64 0, .string ⟨#[]⟩, .int .i64 3, .int .i64 0, .string ⟨#[48]⟩, .int .i64 0, .string ⟨#[48, 43, 48]⟩, .int .i64 1, .int .i64 1, .int .i64 7, .string ⟨#[]⟩, .int .i64 4, .int .i64 0, .string ⟨#[49]⟩, .int .i64 0, .string ⟨#[]⟩, .int .i64 0, .int .i64 0, .int .i64 (-9223372036854775808), .string ⟨#[]⟩, .int .i64 5, .int .i64 0, .string ⟨#[49, 46, 48]⟩, .int .i64 0, .string ⟨#[49, 46, 48, 43, 52]⟩, .int .i64 0, .int .i64 0, .int .i64 0, .string ⟨#[]⟩, .int .i64 6, .int .i64 0, .string ⟨#[49]⟩, .int .i64 0, .string ⟨#[]⟩, .int .i64 0, .int .i64 0, .int .i64 0, .string ⟨#[49, 46, 51]⟩, .int .i64 7, .int .i64 0, .string ⟨#[49]⟩, .int .i64 0, .string ⟨#[99, 50]⟩, .int .i64 0, .int .i64 0, .int .i64 0, .string ⟨#[]⟩, .int .i64 8, .int .i64 0, .string ⟨#[49]⟩, .int .i64 0, .string ⟨#[]⟩, .int .i64 0, .int .i64 0, .int .i64 0, .string ⟨#[]⟩, .int .i64 9, .int .i64 0, .string ⟨#[49]⟩, .int .i64 0, .string ⟨#[]⟩, .int .i64 0, .int .i64 0, .int .i64 0, .string ⟨#[]⟩] 34) = x := ⟨_, rfl⟩
        obtain ⟨bR, tR⟩ := alloc1 eR
        obtain ⟨qR, hqR⟩ : ∃ q, v3.heap.size = q := ⟨_, rfl⟩
        rw [hqR] at bR
        have CR : Hid (∀ k : Nat, k < 10 → ∀ u : World, Turn Nn wR u → u.cell? ⟨qR, k * 9, none⟩ = some (.int .i64 ((exR[k]?.getD zeroE).kind)) ∧ u.cell? ⟨qR, k * 9 + 1, none⟩ = some (.int .i64 ((exR[k]?.getD zeroE).slot)) ∧ u.cell? ⟨qR, k * 9 + 2, none⟩ = some (.string (BT (exR[k]?.getD zeroE).actor)) ∧ u.cell? ⟨qR, k * 9 + 3, none⟩ = some (.int .i64 ((exR[k]?.getD zeroE).pc)) ∧ u.cell? ⟨qR, k * 9 + 4, none⟩ = some (.string (BT (exR[k]?.getD zeroE).chan)) ∧ u.cell? ⟨qR, k * 9 + 5, none⟩ = some (.int .i64 ((exR[k]?.getD zeroE).side)) ∧ u.cell? ⟨qR, k * 9 + 6, none⟩ = some (.int .i64 ((exR[k]?.getD zeroE).tag)) ∧ u.cell? ⟨qR, k * 9 + 7, none⟩ = some (.int .i64 ((exR[k]?.getD zeroE).word)) ∧ u.cell? ⟨qR, k * 9 + 8, none⟩ = some (.string (BT (exR[k]?.getD zeroE).name))) := Lib.hid (by
          intro k hk u tu
          have hb := (tu.block _ (heap_lt bR) (fun h => h)).trans bR
          have hk2 : k = 0 ∨ k = 1 ∨ k = 2 ∨ k = 3 ∨ k = 4 ∨ k = 5 ∨ k = 6 ∨ k = 7 ∨ k = 8 ∨ k = 9 := by omega
          clear hk tu bR
          rcases hk2 with rfl | rfl | rfl | rfl | rfl | rfl | rfl | rfl | rfl | rfl
          all_goals first
            | exact cell_blk hb
            | exact ⟨cell_blk hb, cell_blk hb, cell_blk hb, cell_blk hb, cell_blk hb, cell_blk hb, cell_blk hb, cell_blk hb, cell_blk hb⟩)
        obtain ⟨wT, eT⟩ : ∃ x, World.alloc wR (.cells #[.string ⟨#[48, 32, 105, 100, 108, 101]⟩, .string ⟨#[45, 52, 32, 105, 100, 108, 101]⟩, .string ⟨#[51, 49, 32, 55, 64, 49, 50, 55, 32, 115, 105, 108, 101, 110, 116]⟩, .string ⟨#[48, 32, 48, 64, 48, 32, 103, 111, 116, 32, 48, 43, 48, 58, 49, 32, 108, 97, 98, 101, 108, 32, 55]⟩, .string ⟨#[48, 32, 49, 64, 48, 32, 111, 117, 116, 32, 45, 57, 50, 50, 51, 51, 55, 50, 48, 51, 54, 56, 53, 52, 55, 55, 53, 56, 48, 56]⟩, .string ⟨#[48, 32, 49, 46, 48, 64, 48, 32, 109, 97, 100, 101, 32, 49, 46, 48, 43, 52]⟩, .string ⟨#[48, 32, 49, 64, 48, 32, 115, 112, 97, 119, 110, 101, 100, 32, 49, 46, 51]⟩, .string ⟨#[48, 32, 49, 64, 48, 32, 99, 108, 111, 115, 101, 100, 32, 99, 50, 58, 48]⟩, .string ⟨#[48, 32, 49, 64, 48, 32, 104, 97, 108, 116, 101, 100]⟩, .string ⟨#[48, 32, 49, 64, 48, 32, 116, 114, 97, 112]⟩] 9) = x := ⟨_, rfl⟩
        obtain ⟨bT, tT⟩ := alloc1 eT
        obtain ⟨qT, hqT⟩ : ∃ q, wR.heap.size = q := ⟨_, rfl⟩
        rw [hqT] at bT
        have CT : Hid (∀ k : Nat, k < 10 → ∀ u : World, Turn Nn wT u → u.cell? ⟨qT, k, none⟩ = some (.string (BT (exT[k]?.getD [])))) := Lib.hid (by
          intro k hk u tu
          have hb := (tu.block _ (heap_lt bT) (fun h => h)).trans bT
          have hk2 : k = 0 ∨ k = 1 ∨ k = 2 ∨ k = 3 ∨ k = 4 ∨ k = 5 ∨ k = 6 ∨ k = 7 ∨ k = 8 ∨ k = 9 := by omega
          clear hk tu bT
          rcases hk2 with rfl | rfl | rfl | rfl | rfl | rfl | rfl | rfl | rfl | rfl
          all_goals first
            | exact cell_blk hb
            | exact ⟨cell_blk hb, cell_blk hb, cell_blk hb, cell_blk hb, cell_blk hb, cell_blk hb, cell_blk hb, cell_blk hb, cell_blk hb⟩)
        have TT : Hid (Turn Nn w wT) := Lib.hid ((TR3.out.trans tR).trans tT)
        have TRT : Hid (Turn Nn wR wT) := Lib.hid tT
        clear tR bR tT bT
        go_upto_block 6 with (fail)
        clear eT hqT eR hqR
        go_cut [] from 86 to 129 (fun wx => Turn Nn w wx)
        case first =>
          go_wp2_with fail
          go_loopw [12] (fun i wr => ∃ k : Nat, k ≤ 10 ∧ i = .int .i64 k ∧ Turn Nn wT wr) (fun i _ => 10 - (intOf i).toNat)
          case atStart => exact ⟨0, by omega, rfl, Turn.refl _ _⟩
          case round =>
            obtain ⟨k, hk, rfl, ht⟩ := hrel
            have TK := Lib.hid ht
            clear ht
            by_cases hlt : k < 10
            · have hltI : (k : Int) < 10 := by omega
              obtain ⟨x0, x1, x2, x3, x4, x5, x6, x7, x8⟩ := CR.out k hlt _ (TRT.out.trans TK.out)
              have y := CT.out k hlt _ TK.out
              obtain ⟨hF1, hF2, hF3, hF4⟩ := exR_ok ⟨k, hlt⟩
              obtain ⟨E, hE⟩ : ∃ E, exR[k]?.getD zeroE = E := ⟨_, rfl⟩
              have HC : Hid (∀ W, Turn Nn w W → Calls Tryz.prog 21 #[.agg (evC E)] W fun e w' => e = .returned (.tuple #[.string (BT (exT[k]?.getD [])), .int .i64 0]) ∧ Turn Nn W w') := Lib.hid (fun W t => by
                have := gives_text HW.out (smallB_yes hF3)
                rw [hF1] at this
                rw [← hE]
                exact this W t)
              have HP : Hid (∀ W, Turn Nn w W → Calls Tryz.prog 24 #[.string (BT (exT[k]?.getD []))] W fun e w' => e = .returned (.tuple #[.agg (evC E), .int .i64 0]) ∧ Turn Nn W w') := Lib.hid (fun W t => by
                have := gives_parse HW.out hF4
                rw [hF2] at this
                rw [← hE]
                exact this W t)
              have HR : Hid (∀ u : World, Turn Nn wR u → u.cell? ⟨qR, k * 9, none⟩ = some (.int .i64 (E.kind)) ∧ u.cell? ⟨qR, k * 9 + 1, none⟩ = some (.int .i64 (E.slot)) ∧ u.cell? ⟨qR, k * 9 + 2, none⟩ = some (.string (BT E.actor)) ∧ u.cell? ⟨qR, k * 9 + 3, none⟩ = some (.int .i64 (E.pc)) ∧ u.cell? ⟨qR, k * 9 + 4, none⟩ = some (.string (BT E.chan)) ∧ u.cell? ⟨qR, k * 9 + 5, none⟩ = some (.int .i64 (E.side)) ∧ u.cell? ⟨qR, k * 9 + 6, none⟩ = some (.int .i64 (E.tag)) ∧ u.cell? ⟨qR, k * 9 + 7, none⟩ = some (.int .i64 (E.word)) ∧ u.cell? ⟨qR, k * 9 + 8, none⟩ = some (.string (BT E.name))) := Lib.hid (fun u tu => by
                have := CR.out k hlt u tu
                rw [hE] at this
                exact this)
              have HY : Hid (∀ u : World, Turn Nn wT u → u.cell? ⟨qT, k, none⟩ = some (.string (BT (exT[k]?.getD [])))) := Lib.hid (fun u tu => CT.out k hlt u tu)
              rw [hE] at x0 x1 x2 x3 x4 x5 x6 x7 x8
              clear hF1 hF2 hF3 hF4 hE
              generalize BT (exT[k]?.getD []) = X at y HC HP HY
              have hne : ∀ W, (binOp BinOp.neq 34 (.agg #[.int .i64 (E.kind), .int .i64 (E.slot), .string (BT E.actor), .int .i64 (E.pc), .string (BT E.chan), .int .i64 (E.side), .int .i64 (E.tag), .int .i64 (E.word), .string (BT E.name)]) (.agg #[.int .i64 (E.kind), .int .i64 (E.slot), .string (BT E.actor), .int .i64 (E.pc), .string (BT E.chan), .int .i64 (E.side), .int .i64 (E.tag), .int .i64 (E.word), .string (BT E.name)])).run Tryz.prog W = .ok (.bool false) W := fun W => by
                have := ev_neq E E W
                rw [decide_eq_true rfl] at this
                exact this
              have HNE := Lib.hid hne
              clear hne
              go_wp2_with fail
              refine (HC.out _ (TT.out.trans TK.out)).mono ?_
              rintro e w4 ⟨rfl, t⟩
              have T4 := Lib.hid (TK.out.trans t)
              clear t x0 x1 x2 x3 x4 x5 x6 x7 x8 y
              have y := HY.out _ T4.out
              go_wp2_with fail
              refine (HP.out _ (TT.out.trans T4.out)).mono ?_
              rintro e w5 ⟨rfl, t⟩
              have T5 := Lib.hid (T4.out.trans t)
              clear t y
              obtain ⟨q5, b5, c5, hq5, eb5, Bb5, ec5, Bc5, tb5, tc5⟩ := evbox w5 E
              have fc5 : (((((((((b5.setCell ⟨q5, 0, none⟩ (.int .i64 (E.kind))).setCell ⟨q5, 1, none⟩ (.int .i64 (E.slot))).setCell ⟨q5, 2, none⟩ (.string (BT E.actor))).setCell ⟨q5, 3, none⟩ (.int .i64 (E.pc))).setCell ⟨q5, 4, none⟩ (.string (BT E.chan))).setCell ⟨q5, 5, none⟩ (.int .i64 (E.side))).setCell ⟨q5, 6, none⟩ (.int .i64 (E.tag))).setCell ⟨q5, 7, none⟩ (.int .i64 (E.word))).setCell ⟨q5, 8, none⟩ (.string (BT E.name))) = c5 := ec5
              obtain ⟨y0, y1, y2, y3, y4, y5, y6, y7, y8⟩ : b5.cell? ⟨q5, 0, none⟩ = some (.int .i64 0) ∧ b5.cell? ⟨q5, 1, none⟩ = some (.int .i64 0) ∧ b5.cell? ⟨q5, 2, none⟩ = some (.string ⟨#[]⟩) ∧ b5.cell? ⟨q5, 3, none⟩ = some (.int .i64 0) ∧ b5.cell? ⟨q5, 4, none⟩ = some (.string ⟨#[]⟩) ∧ b5.cell? ⟨q5, 5, none⟩ = some (.int .i64 0) ∧ b5.cell? ⟨q5, 6, none⟩ = some (.int .i64 0) ∧ b5.cell? ⟨q5, 7, none⟩ = some (.int .i64 0) ∧ b5.cell? ⟨q5, 8, none⟩ = some (.string ⟨#[]⟩) := evCells Bb5
              obtain ⟨z0, z1, z2, z3, z4, z5, z6, z7, z8⟩ := evFree Bb5
              have Hc5 := Lib.hid Bc5
              have T6 := Lib.hid (T5.out.trans tc5)
              have Kc5 := Lib.hid tc5
              clear Bb5 Bc5 ec5 tb5 tc5
              unfold evC
              go_upto_region 27 with (fail)
              clear y0 y1 y2 y3 y4 y5 y6 y7 y8 z0 z1 z2 z3 z4 z5 z6 z7 z8
              obtain ⟨y0, y1, y2, y3, y4, y5, y6, y7, y8⟩ : c5.cell? ⟨q5, 0, none⟩ = some (.int .i64 (E.kind)) ∧ c5.cell? ⟨q5, 1, none⟩ = some (.int .i64 (E.slot)) ∧ c5.cell? ⟨q5, 2, none⟩ = some (.string (BT E.actor)) ∧ c5.cell? ⟨q5, 3, none⟩ = some (.int .i64 (E.pc)) ∧ c5.cell? ⟨q5, 4, none⟩ = some (.string (BT E.chan)) ∧ c5.cell? ⟨q5, 5, none⟩ = some (.int .i64 (E.side)) ∧ c5.cell? ⟨q5, 6, none⟩ = some (.int .i64 (E.tag)) ∧ c5.cell? ⟨q5, 7, none⟩ = some (.int .i64 (E.word)) ∧ c5.cell? ⟨q5, 8, none⟩ = some (.string (BT E.name)) := evCells Hc5.out
              obtain ⟨x0, x1, x2, x3, x4, x5, x6, x7, x8⟩ := HR.out _ (TRT.out.trans T6.out)
              have y := HY.out _ T6.out
              have hne := HNE.out
              go_quiet (fail)
              go_wp2_with fail
              go_roundw
              case rel => exact ⟨k + 1, by omega, by go_num, (show Turn Nn wT _ from T6.out.drewN _)⟩
              case measure => simp [intOf]; omega
            · obtain rfl : k = 10 := by omega
              go_wp2_with fail
              go_meet
              case rel => exact TT.out.trans TK.out
        case rest =>
          have TR4 : Hid (Turn Nn w wc) := Lib.hid hcut
          clear hcut
          generalize wc = v4 at TR4 ⊢
          obtain ⟨wB, eB⟩ : ∃ x, World.alloc v4 (.cells #[.int .i64 10, .int .i64 0, .string ⟨#[48]⟩, .int .i64 0, .string ⟨#[]⟩, .int .i64 0, .int .i64 0, .int .i64 0, .string ⟨#[]⟩, .int .i64 1, .int .i64 (-1), .string ⟨#[48]⟩, .int .i64 0, .string ⟨#[]⟩, .int .i64 0, .int .i64 0, .int .i64 0, .string ⟨#[]⟩, .int .i64 1, .int .i64 0, .string ⟨#[48]⟩, .int .i64 (-1), .string ⟨#[]⟩, .int .i64 0, .int .i64 0, .int .i64 0, .string ⟨#[]⟩, .int .i64 0, .int .i64 0, .string ⟨#[]⟩, .int .i64 1, .string ⟨#[]⟩, .int .i64 0, .int .i64 0, .int .i64 0, .string ⟨#[]⟩, .int .i64 0, .int .i64 0, .string ⟨#[48]⟩, .int .i64 0, .string ⟨#[]⟩, .int .i64 0, .int .i64 0, .int .i64 0, .string ⟨#[]⟩, .int .i64 (-1), .int .i64 0, .string ⟨#[48]⟩, .int .i64 0, .string ⟨#[]⟩, .int .i64 0, .int .i64 0, .int .i64 0, .string ⟨#[]⟩, .int .i64 1, .int .i64 0, .string ⟨#[]⟩, .int .i64 0, .string ⟨#[]⟩, .int .i64 0, .int .i64 0, .int .i64 0, .string ⟨#[]⟩, .int .i64 1, .int .i64 0, .string ⟨#[48, 49]⟩, .int .i64 0, .string ⟨#[]⟩, .int .i64 0, .int .i64 0, .int .i64 0, .string ⟨#[]⟩, .int .i64 1, .int .i64 0, .string ⟨#[48]⟩, .int .i64 0, .string ⟨#[]⟩, .int .i64 0, .int .i64 0, .int .i64 1, .string ⟨#[]⟩, .int .i64 0, .int .i64 0, .string ⟨#[]⟩, .int .i64 0, .string ⟨#[]⟩, .int .i64 1, .int .i64 0, .int .i64 0, .string ⟨#[]⟩, .int .i64 2, .int .i64 0, .string ⟨#[48]⟩, .int .i64 0, .string ⟨#[99, 48]⟩, .int .i64 2, .int .i64 0, .int .i64 0, .string ⟨#[]⟩, .int .i64 2, .int .i64 0, .string ⟨#[48]⟩, .int .i64 0, .string ⟨#[99, 48]⟩, .int .i64 0, .int .i64 3, .int .i64 0, .string ⟨#[]⟩, .int .i64 2, .int .i64 0, .string ⟨#[48]⟩, .int .i64 0, .string ⟨#[99, 48]⟩, .int .i64 0, .int .i64 1, .int .i64 8, .string ⟨#[]⟩, .int .i64 2, .int .i64 0, .string ⟨#[48]⟩, .int .i64 0, .string ⟨#[99, 48]⟩, .int .i64 0, .int .i64 1, .int .i64 (-1), .string ⟨#[]⟩, .int .i64 2, .int .i64 0, .string ⟨#[48]⟩, .int .i64 0, .string ⟨#[99, 48]⟩, .int .i64 0, .int .i64 2, .int .i64 0, .string ⟨#[99, 48]⟩, .int .i64 2, .int .i64 0, .string ⟨#[48]⟩, .int .i64 0, .string ⟨#[99, 48]⟩, .int .i64 0, .int .i64 2, .int .i64 1, .string ⟨#[99, 48, 58, 48]⟩, .int .i64 2, .int .i64 0, .string ⟨#[48]⟩, .int .i64 0, .string ⟨#[99, 48]⟩, .int .i64 0, .int .i64 0, .int .i64 0, .string ⟨#[99, 48, 58, 48]⟩, .int .i64 2, .int .i64 0, .string ⟨#[48]⟩, .int .i64 0, .string ⟨#[]⟩, .int .i64 0, .int .i64 0, .int .i64 0, .string ⟨#[]⟩, .int .i64 5, .int .i64 0, .string ⟨#[48]⟩, .int .i64 0, .string ⟨#[99, 48]⟩, .int .i64 0, .int .i64 0, .int .i64 0, .string ⟨#[]⟩, .int .i64 5, .int .i64 0, .string ⟨#[48]⟩, .int .i64 0, .string ⟨#[49, 43, 48]⟩, .int .i64 0, .int .i64 0, .int .i64 0, .string ⟨#[]⟩, .int .i64 6, .int .i64 0, .string ⟨#[48]⟩, .int .i64 0, .string ⟨#[]⟩, .int .i64 0, .int .i64 0, .int .i64 0, .string ⟨#[48, 46, 49, 46, 50]⟩, .int .i64 6, .int .i64 0, .string ⟨#[48]⟩, .int .i64 0, .string ⟨#[]⟩, .int .i64 0, .int .i64 0, .int .i64 0, .string ⟨#[49]⟩, .int .i64 7, .int .i64 0, .string ⟨#[48]⟩, .int .i64 0, .string ⟨#[99, 48]⟩, .int .i64 0, .int .i64 1, .int .i64 0, .string ⟨#[]⟩] 34) = x := ⟨_, rfl⟩
          obtain ⟨bB, tB⟩ := alloc1 eB
          obtain ⟨qB, hqB⟩ : ∃ q, v4.heap.size = q := ⟨_, rfl⟩
          rw [hqB] at bB
          have CB : Hid (∀ k : Nat, k < 23 → ∀ u : World, Turn Nn wB u → u.cell? ⟨qB, k * 9, none⟩ = some (.int .i64 ((exB[k]?.getD zeroE).kind)) ∧ u.cell? ⟨qB, k * 9 + 1, none⟩ = some (.int .i64 ((exB[k]?.getD zeroE).slot)) ∧ u.cell? ⟨qB, k * 9 + 2, none⟩ = some (.string (BT (exB[k]?.getD zeroE).actor)) ∧ u.cell? ⟨qB, k * 9 + 3, none⟩ = some (.int .i64 ((exB[k]?.getD zeroE).pc)) ∧ u.cell? ⟨qB, k * 9 + 4, none⟩ = some (.string (BT (exB[k]?.getD zeroE).chan)) ∧ u.cell? ⟨qB, k * 9 + 5, none⟩ = some (.int .i64 ((exB[k]?.getD zeroE).side)) ∧ u.cell? ⟨qB, k * 9 + 6, none⟩ = some (.int .i64 ((exB[k]?.getD zeroE).tag)) ∧ u.cell? ⟨qB, k * 9 + 7, none⟩ = some (.int .i64 ((exB[k]?.getD zeroE).word)) ∧ u.cell? ⟨qB, k * 9 + 8, none⟩ = some (.string (BT (exB[k]?.getD zeroE).name))) := Lib.hid (by
            intro k hk u tu
            have hb := (tu.block _ (heap_lt bB) (fun h => h)).trans bB
            have hk2 : k = 0 ∨ k = 1 ∨ k = 2 ∨ k = 3 ∨ k = 4 ∨ k = 5 ∨ k = 6 ∨ k = 7 ∨ k = 8 ∨ k = 9 ∨ k = 10 ∨ k = 11 ∨ k = 12 ∨ k = 13 ∨ k = 14 ∨ k = 15 ∨ k = 16 ∨ k = 17 ∨ k = 18 ∨ k = 19 ∨ k = 20 ∨ k = 21 ∨ k = 22 := by omega
            clear hk tu bB
            rcases hk2 with rfl | rfl | rfl | rfl | rfl | rfl | rfl | rfl | rfl | rfl | rfl | rfl | rfl | rfl | rfl | rfl | rfl | rfl | rfl | rfl | rfl | rfl | rfl
            all_goals first
              | exact cell_blk hb
              | exact ⟨cell_blk hb, cell_blk hb, cell_blk hb, cell_blk hb, cell_blk hb, cell_blk hb, cell_blk hb, cell_blk hb, cell_blk hb⟩)
          have TB : Hid (Turn Nn w wB) := Lib.hid (TR4.out.trans tB)
          clear tB bB
          go_upto_region 29 with (fail)
          refine wp_region_list ?_
          refine wpList_value (v := .agg #[.int .i64 10, .int .i64 0, .string ⟨#[48]⟩, .int .i64 0, .string ⟨#[]⟩, .int .i64 0, .int .i64 0, .int .i64 0, .string ⟨#[]⟩]) (w' := v4) rfl (by kernel_rfl) ?_
          refine wpList_value (v := .agg #[.int .i64 1, .int .i64 (-1), .string ⟨#[48]⟩, .int .i64 0, .string ⟨#[]⟩, .int .i64 0, .int .i64 0, .int .i64 0, .string ⟨#[]⟩]) (w' := v4) rfl (by kernel_rfl) ?_
          refine wpList_value (v := .agg #[.int .i64 1, .int .i64 0, .string ⟨#[48]⟩, .int .i64 (-1), .string ⟨#[]⟩, .int .i64 0, .int .i64 0, .int .i64 0, .string ⟨#[]⟩]) (w' := v4) rfl (by kernel_rfl) ?_
          refine wpList_value (v := .agg #[.int .i64 0, .int .i64 0, .string ⟨#[]⟩, .int .i64 1, .string ⟨#[]⟩, .int .i64 0, .int .i64 0, .int .i64 0, .string ⟨#[]⟩]) (w' := v4) rfl (by kernel_rfl) ?_
          refine wpList_value (v := .agg #[.int .i64 0, .int .i64 0, .string ⟨#[48]⟩, .int .i64 0, .string ⟨#[]⟩, .int .i64 0, .int .i64 0, .int .i64 0, .string ⟨#[]⟩]) (w' := v4) rfl (by kernel_rfl) ?_
          refine wpList_value (v := .agg #[.int .i64 (-1), .int .i64 0, .string ⟨#[48]⟩, .int .i64 0, .string ⟨#[]⟩, .int .i64 0, .int .i64 0, .int .i64 0, .string ⟨#[]⟩]) (w' := v4) rfl (by kernel_rfl) ?_
          refine wpList_value (v := .agg #[.int .i64 1, .int .i64 0, .string ⟨#[]⟩, .int .i64 0, .string ⟨#[]⟩, .int .i64 0, .int .i64 0, .int .i64 0, .string ⟨#[]⟩]) (w' := v4) rfl (by kernel_rfl) ?_
          refine wpList_value (v := .agg #[.int .i64 1, .int .i64 0, .string ⟨#[48, 49]⟩, .int .i64 0, .string ⟨#[]⟩, .int .i64 0, .int .i64 0, .int .i64 0, .string ⟨#[]⟩]) (w' := v4) rfl (by kernel_rfl) ?_
          refine wpList_value (v := .agg #[.int .i64 1, .int .i64 0, .string ⟨#[48]⟩, .int .i64 0, .string ⟨#[]⟩, .int .i64 0, .int .i64 0, .int .i64 1, .string ⟨#[]⟩]) (w' := v4) rfl (by kernel_rfl) ?_
          refine wpList_value (v := .agg #[.int .i64 0, .int .i64 0, .string ⟨#[]⟩, .int .i64 0, .string ⟨#[]⟩, .int .i64 1, .int .i64 0, .int .i64 0, .string ⟨#[]⟩]) (w' := v4) rfl (by kernel_rfl) ?_
          refine wpList_value (v := .agg #[.int .i64 2, .int .i64 0, .string ⟨#[48]⟩, .int .i64 0, .string ⟨#[99, 48]⟩, .int .i64 2, .int .i64 0, .int .i64 0, .string ⟨#[]⟩]) (w' := v4) rfl (by kernel_rfl) ?_
          refine wpList_value (v := .agg #[.int .i64 2, .int .i64 0, .string ⟨#[48]⟩, .int .i64 0, .string ⟨#[99, 48]⟩, .int .i64 0, .int .i64 3, .int .i64 0, .string ⟨#[]⟩]) (w' := v4) rfl (by kernel_rfl) ?_
          refine wpList_value (v := .agg #[.int .i64 2, .int .i64 0, .string ⟨#[48]⟩, .int .i64 0, .string ⟨#[99, 48]⟩, .int .i64 0, .int .i64 1, .int .i64 8, .string ⟨#[]⟩]) (w' := v4) rfl (by kernel_rfl) ?_
          refine wpList_value (v := .agg #[.int .i64 2, .int .i64 0, .string ⟨#[48]⟩, .int .i64 0, .string ⟨#[99, 48]⟩, .int .i64 0, .int .i64 1, .int .i64 (-1), .string ⟨#[]⟩]) (w' := v4) rfl (by kernel_rfl) ?_
          refine wpList_value (v := .agg #[.int .i64 2, .int .i64 0, .string ⟨#[48]⟩, .int .i64 0, .string ⟨#[99, 48]⟩, .int .i64 0, .int .i64 2, .int .i64 0, .string ⟨#[99, 48]⟩]) (w' := v4) rfl (by kernel_rfl) ?_
          refine wpList_value (v := .agg #[.int .i64 2, .int .i64 0, .string ⟨#[48]⟩, .int .i64 0, .string ⟨#[99, 48]⟩, .int .i64 0, .int .i64 2, .int .i64 1, .string ⟨#[99, 48, 58, 48]⟩]) (w' := v4) rfl (by kernel_rfl) ?_
          refine wpList_value (v := .agg #[.int .i64 2, .int .i64 0, .string ⟨#[48]⟩, .int .i64 0, .string ⟨#[99, 48]⟩, .int .i64 0, .int .i64 0, .int .i64 0, .string ⟨#[99, 48, 58, 48]⟩]) (w' := v4) rfl (by kernel_rfl) ?_
          refine wpList_value (v := .agg #[.int .i64 2, .int .i64 0, .string ⟨#[48]⟩, .int .i64 0, .string ⟨#[]⟩, .int .i64 0, .int .i64 0, .int .i64 0, .string ⟨#[]⟩]) (w' := v4) rfl (by kernel_rfl) ?_
          refine wpList_value (v := .agg #[.int .i64 5, .int .i64 0, .string ⟨#[48]⟩, .int .i64 0, .string ⟨#[99, 48]⟩, .int .i64 0, .int .i64 0, .int .i64 0, .string ⟨#[]⟩]) (w' := v4) rfl (by kernel_rfl) ?_
          refine wpList_value (v := .agg #[.int .i64 5, .int .i64 0, .string ⟨#[48]⟩, .int .i64 0, .string ⟨#[49, 43, 48]⟩, .int .i64 0, .int .i64 0, .int .i64 0, .string ⟨#[]⟩]) (w' := v4) rfl (by kernel_rfl) ?_
          refine wpList_value (v := .agg #[.int .i64 6, .int .i64 0, .string ⟨#[48]⟩, .int .i64 0, .string ⟨#[]⟩, .int .i64 0, .int .i64 0, .int .i64 0, .string ⟨#[48, 46, 49, 46, 50]⟩]) (w' := v4) rfl (by kernel_rfl) ?_
          refine wpList_value (v := .agg #[.int .i64 6, .int .i64 0, .string ⟨#[48]⟩, .int .i64 0, .string ⟨#[]⟩, .int .i64 0, .int .i64 0, .int .i64 0, .string ⟨#[49]⟩]) (w' := v4) rfl (by kernel_rfl) ?_
          refine wpList_value (v := .agg #[.int .i64 7, .int .i64 0, .string ⟨#[48]⟩, .int .i64 0, .string ⟨#[99, 48]⟩, .int .i64 0, .int .i64 1, .int .i64 0, .string ⟨#[]⟩]) (w' := v4) rfl (by kernel_rfl) ?_
          refine wpList_value (v := .slice (some ⟨qB, 0, none⟩) 23 23) (w' := wB) rfl (by rw [← eB, ← hqB]; kernel_rfl) ?_
          try simp only [Act.put, List.getElem_toArray, List.getElem_cons_succ, List.getElem_cons_zero, List.setIfInBounds_toArray, List.set_cons_succ, List.set_cons_zero]
          go_upto_block 8 with (fail)
          clear eB hqB
          go_cut [] from 156 to 174 (fun wx => Turn Nn w wx)
          case first =>
            go_wp2_with fail
            go_loopw [156] (fun i wr => ∃ k : Nat, k ≤ 23 ∧ i = .int .i64 k ∧ Turn Nn wB wr) (fun i _ => 23 - (intOf i).toNat)
            case atStart => exact ⟨0, by omega, rfl, Turn.refl _ _⟩
            case round =>
              obtain ⟨k, hk, rfl, ht⟩ := hrel
              have TK := Lib.hid ht
              clear ht
              by_cases hlt : k < 23
              · have hltI : (k : Int) < 23 := by omega
                obtain ⟨x0, x1, x2, x3, x4, x5, x6, x7, x8⟩ := CB.out k hlt _ TK.out
                obtain ⟨hF1, hF2⟩ := exB_ok ⟨k, hlt⟩
                obtain ⟨E, hE⟩ : ∃ E, exB[k]?.getD zeroE = E := ⟨_, rfl⟩
                have HC : Hid (∀ W, Turn Nn w W → Calls Tryz.prog 21 #[.agg (evC E)] W fun e w' => e = .returned (.tuple #[.string ⟨#[]⟩, .int .i64 2]) ∧ Turn Nn W w') := Lib.hid (fun W t => by
                  have := gives_text HW.out (smallB_yes hF2)
                  rw [hF1] at this
                  rw [← hE]
                  exact this W t)
                rw [hE] at x0 x1 x2 x3 x4 x5 x6 x7 x8
                clear hF1 hF2 hE
                obtain ⟨q5, b5, c5, hq5, eb5, Bb5, ec5, Bc5, tb5, tc5⟩ := evbox wr E
                have fc5 : (((((((((b5.setCell ⟨q5, 0, none⟩ (.int .i64 (E.kind))).setCell ⟨q5, 1, none⟩ (.int .i64 (E.slot))).setCell ⟨q5, 2, none⟩ (.string (BT E.actor))).setCell ⟨q5, 3, none⟩ (.int .i64 (E.pc))).setCell ⟨q5, 4, none⟩ (.string (BT E.chan))).setCell ⟨q5, 5, none⟩ (.int .i64 (E.side))).setCell ⟨q5, 6, none⟩ (.int .i64 (E.tag))).setCell ⟨q5, 7, none⟩ (.int .i64 (E.word))).setCell ⟨q5, 8, none⟩ (.string (BT E.name))) = c5 := ec5
                obtain ⟨y0, y1, y2, y3, y4, y5, y6, y7, y8⟩ : b5.cell? ⟨q5, 0, none⟩ = some (.int .i64 0) ∧ b5.cell? ⟨q5, 1, none⟩ = some (.int .i64 0) ∧ b5.cell? ⟨q5, 2, none⟩ = some (.string ⟨#[]⟩) ∧ b5.cell? ⟨q5, 3, none⟩ = some (.int .i64 0) ∧ b5.cell? ⟨q5, 4, none⟩ = some (.string ⟨#[]⟩) ∧ b5.cell? ⟨q5, 5, none⟩ = some (.int .i64 0) ∧ b5.cell? ⟨q5, 6, none⟩ = some (.int .i64 0) ∧ b5.cell? ⟨q5, 7, none⟩ = some (.int .i64 0) ∧ b5.cell? ⟨q5, 8, none⟩ = some (.string ⟨#[]⟩) := evCells Bb5
                obtain ⟨z0, z1, z2, z3, z4, z5, z6, z7, z8⟩ := evFree Bb5
                have Hc5 := Lib.hid Bc5
                have T6 := Lib.hid (TK.out.trans tc5)
                have Kc5 := Lib.hid tc5
                clear Bb5 Bc5 ec5 tb5 tc5
                obtain ⟨v0, v1, v2, v3, v4, v5, v6, v7, v8⟩ : c5.cell? ⟨q5, 0, none⟩ = some (.int .i64 (E.kind)) ∧ c5.cell? ⟨q5, 1, none⟩ = some (.int .i64 (E.slot)) ∧ c5.cell? ⟨q5, 2, none⟩ = some (.string (BT E.actor)) ∧ c5.cell? ⟨q5, 3, none⟩ = some (.int .i64 (E.pc)) ∧ c5.cell? ⟨q5, 4, none⟩ = some (.string (BT E.chan)) ∧ c5.cell? ⟨q5, 5, none⟩ = some (.int .i64 (E.side)) ∧ c5.cell? ⟨q5, 6, none⟩ = some (.int .i64 (E.tag)) ∧ c5.cell? ⟨q5, 7, none⟩ = some (.int .i64 (E.word)) ∧ c5.cell? ⟨q5, 8, none⟩ = some (.string (BT E.name)) := evCells Hc5.out
                go_wp2_with fail
                clear y0 y1 y2 y3 y4 y5 y6 y7 y8 z0 z1 z2 z3 z4 z5 z6 z7 z8
                clear x0 x1 x2 x3 x4 x5 x6 x7 x8 v0 v1 v2 v3 v4 v5 v6 v7 v8
                refine (HC.out _ (TB.out.trans T6.out)).mono ?_
                rintro e w7 ⟨rfl, t⟩
                have T7 := Lib.hid (T6.out.trans t)
                clear t
                go_wp2_with fail
                go_roundw
                case rel => exact ⟨k + 1, by omega, by go_num, T7.out⟩
                case measure => simp [intOf]; omega
              · obtain rfl : k = 23 := by omega
                go_wp2_with fail
                go_meet
                case rel => exact TB.out.trans TK.out
          case rest =>
            have TR5 : Hid (Turn Nn w wc) := Lib.hid hcut
            clear hcut
            generalize wc = v5 at TR5 ⊢
            obtain ⟨wX, eX⟩ : ∃ x, World.alloc v5 (.cells #[.string ⟨#[]⟩, .string ⟨#[32, 105, 100, 108, 101]⟩, .string ⟨#[105, 100, 108, 101]⟩, .string ⟨#[48, 32, 105, 100, 108, 101, 32]⟩, .string ⟨#[48, 48, 32, 105, 100, 108, 101]⟩, .string ⟨#[43, 49, 32, 105, 100, 108, 101]⟩, .string ⟨#[57, 50, 50, 51, 51, 55, 50, 48, 51, 54, 56, 53, 52, 55, 55, 53, 56, 48, 56, 32, 105, 100, 108, 101]⟩, .string ⟨#[48, 32, 48, 64, 48]⟩, .string ⟨#[48, 32, 48, 64, 48, 32, 105, 100, 108, 101]⟩, .string ⟨#[48, 32, 32, 48, 64, 48, 32, 104, 97, 108, 116, 101, 100]⟩, .string ⟨#[48, 32, 48, 32, 104, 97, 108, 116, 101, 100]⟩, .string ⟨#[48, 32, 48, 64, 32, 104, 97, 108, 116, 101, 100]⟩, .string ⟨#[48, 32, 48, 64, 48, 48, 32, 104, 97, 108, 116, 101, 100]⟩, .string ⟨#[48, 32, 64, 48, 32, 104, 97, 108, 116, 101, 100]⟩, .string ⟨#[45, 49, 32, 48, 64, 48, 32, 104, 97, 108, 116, 101, 100]⟩, .string ⟨#[48, 32, 48, 64, 45, 49, 32, 104, 97, 108, 116, 101, 100]⟩, .string ⟨#[48, 32, 48, 64, 48, 32, 111, 117, 116]⟩, .string ⟨#[48, 32, 48, 64, 48, 32, 111, 117, 116, 32, 43, 53]⟩, .string ⟨#[48, 32, 48, 64, 48, 32, 111, 117, 116, 32, 48, 53]⟩, .string ⟨#[48, 32, 48, 64, 48, 32, 111, 117, 116, 32, 45, 48]⟩, .string ⟨#[48, 32, 48, 64, 48, 32, 111, 117, 116, 32, 57, 50, 50, 51, 51, 55, 50, 48, 51, 54, 56, 53, 52, 55, 55, 53, 56, 48, 56]⟩, .string ⟨#[48, 32, 48, 64, 48, 32, 115, 101, 110, 116, 32, 99, 48, 58, 48]⟩, .string ⟨#[48, 32, 48, 64, 48, 32, 115, 101, 110, 116, 32, 99, 48, 58, 48, 32, 119, 111, 114, 100]⟩, .string ⟨#[48, 32, 48, 64, 48, 32, 115, 101, 110, 116, 32, 99, 48, 58, 48, 32, 119, 111, 114, 100, 32, 49, 32, 50]⟩, .string ⟨#[48, 32, 48, 64, 48, 32, 115, 101, 110, 116, 32, 99, 48, 58, 48, 32, 101, 110, 100, 32, 49]⟩, .string ⟨#[48, 32, 48, 64, 48, 32, 115, 101, 110, 116, 32, 99, 48, 58, 48, 32, 110, 111, 116, 101, 32, 49]⟩, .string ⟨#[48, 32, 48, 64, 48, 32, 109, 97, 100, 101, 32, 99, 48]⟩, .string ⟨#[48, 32, 99, 48, 64, 48, 32, 115, 105, 108, 101, 110, 116]⟩, .string ⟨#[48, 32, 48, 64, 48, 32, 83, 105, 108, 101, 110, 116]⟩, .string ⟨#[48, 32, 48, 64, 48, 32, 108, 97, 98, 101, 108, 32, 49]⟩, .string ⟨#[48, 32, 48, 64, 48, 32, 115, 101, 110, 116, 32, 99, 48, 58, 48, 32, 108, 97, 98, 101, 108, 32, 56]⟩, .string ⟨#[48, 32, 48, 64, 48, 64, 48, 32, 104, 97, 108, 116, 101, 100]⟩] 9) = x := ⟨_, rfl⟩
            obtain ⟨bX, tX⟩ := alloc1 eX
            obtain ⟨qX, hqX⟩ : ∃ q, v5.heap.size = q := ⟨_, rfl⟩
            rw [hqX] at bX
            have CX : Hid (∀ k : Nat, k < 32 → ∀ u : World, Turn Nn wX u → u.cell? ⟨qX, k, none⟩ = some (.string (BT (exX[k]?.getD [])))) := Lib.hid (by
              intro k hk u tu
              have hb := (tu.block _ (heap_lt bX) (fun h => h)).trans bX
              have hk2 : k = 0 ∨ k = 1 ∨ k = 2 ∨ k = 3 ∨ k = 4 ∨ k = 5 ∨ k = 6 ∨ k = 7 ∨ k = 8 ∨ k = 9 ∨ k = 10 ∨ k = 11 ∨ k = 12 ∨ k = 13 ∨ k = 14 ∨ k = 15 ∨ k = 16 ∨ k = 17 ∨ k = 18 ∨ k = 19 ∨ k = 20 ∨ k = 21 ∨ k = 22 ∨ k = 23 ∨ k = 24 ∨ k = 25 ∨ k = 26 ∨ k = 27 ∨ k = 28 ∨ k = 29 ∨ k = 30 ∨ k = 31 := by omega
              clear hk tu bX
              rcases hk2 with rfl | rfl | rfl | rfl | rfl | rfl | rfl | rfl | rfl | rfl | rfl | rfl | rfl | rfl | rfl | rfl | rfl | rfl | rfl | rfl | rfl | rfl | rfl | rfl | rfl | rfl | rfl | rfl | rfl | rfl | rfl | rfl
              all_goals first
                | exact cell_blk hb
                | exact ⟨cell_blk hb, cell_blk hb, cell_blk hb, cell_blk hb, cell_blk hb, cell_blk hb, cell_blk hb, cell_blk hb, cell_blk hb⟩)
            have TX : Hid (Turn Nn w wX) := Lib.hid (TR5.out.trans tX)
            clear tX bX
            go_upto_block 10 with (fail)
            clear eX hqX
            go_cut [] from 177 to 196 (fun wx => Turn Nn w wx)
            case first =>
              go_wp2_with fail
              go_loopw [177] (fun i wr => ∃ k : Nat, k ≤ 32 ∧ i = .int .i64 k ∧ Turn Nn wX wr) (fun i _ => 32 - (intOf i).toNat)
              case atStart => exact ⟨0, by omega, rfl, Turn.refl _ _⟩
              case round =>
                obtain ⟨k, hk, rfl, ht⟩ := hrel
                have TK := Lib.hid ht
                clear ht
                by_cases hlt : k < 32
                · have hltI : (k : Int) < 32 := by omega
                  have y := CX.out k hlt _ TK.out
                  have hF := exX_ok ⟨k, hlt⟩
                  have HC : Hid (∀ W, Turn Nn w W → Calls Tryz.prog 24 #[.string (BT (exX[k]?.getD []))] W fun e w' => e = .returned (.tuple #[.agg #[.int .i64 0, .int .i64 0, .string ⟨#[]⟩, .int .i64 0, .string ⟨#[]⟩, .int .i64 0, .int .i64 0, .int .i64 0, .string ⟨#[]⟩], .int .i64 5]) ∧ Turn Nn W w') := Lib.hid (fun W t => by
                    have := gives_parse HW.out hF.2
                    rw [hF.1] at this
                    exact this W t)
                  have hzz : ∀ W, (binOp BinOp.neq 34 (.agg #[.int .i64 0, .int .i64 0, .string ⟨#[]⟩, .int .i64 0, .string ⟨#[]⟩, .int .i64 0, .int .i64 0, .int .i64 0, .string ⟨#[]⟩]) (.agg #[.int .i64 0, .int .i64 0, .string ⟨#[]⟩, .int .i64 0, .string ⟨#[]⟩, .int .i64 0, .int .i64 0, .int .i64 0, .string ⟨#[]⟩])).run Tryz.prog W = .ok (.bool false) W := fun W => by
                    have := ev_neq zeroE zeroE W
                    rw [decide_eq_true rfl] at this
                    exact this
                  have HZZ := Lib.hid hzz
                  clear hF hzz
                  generalize BT (exX[k]?.getD []) = X at y HC
                  go_wp2_with fail
                  refine (HC.out _ (TX.out.trans TK.out)).mono ?_
                  rintro e w4 ⟨rfl, t⟩
                  have T4 := Lib.hid (TK.out.trans t)
                  clear t y
                  obtain ⟨q5, b5, c5, hq5, eb5, Bb5, ec5, Bc5, tb5, tc5⟩ := evbox w4 zeroE
                  have fc5 : (((((((((b5.setCell ⟨q5, 0, none⟩ (.int .i64 0)).setCell ⟨q5, 1, none⟩ (.int .i64 0)).setCell ⟨q5, 2, none⟩ (.string ⟨#[]⟩)).setCell ⟨q5, 3, none⟩ (.int .i64 0)).setCell ⟨q5, 4, none⟩ (.string ⟨#[]⟩)).setCell ⟨q5, 5, none⟩ (.int .i64 0)).setCell ⟨q5, 6, none⟩ (.int .i64 0)).setCell ⟨q5, 7, none⟩ (.int .i64 0)).setCell ⟨q5, 8, none⟩ (.string ⟨#[]⟩)) = c5 := ec5
                  obtain ⟨y0, y1, y2, y3, y4, y5, y6, y7, y8⟩ : b5.cell? ⟨q5, 0, none⟩ = some (.int .i64 0) ∧ b5.cell? ⟨q5, 1, none⟩ = some (.int .i64 0) ∧ b5.cell? ⟨q5, 2, none⟩ = some (.string ⟨#[]⟩) ∧ b5.cell? ⟨q5, 3, none⟩ = some (.int .i64 0) ∧ b5.cell? ⟨q5, 4, none⟩ = some (.string ⟨#[]⟩) ∧ b5.cell? ⟨q5, 5, none⟩ = some (.int .i64 0) ∧ b5.cell? ⟨q5, 6, none⟩ = some (.int .i64 0) ∧ b5.cell? ⟨q5, 7, none⟩ = some (.int .i64 0) ∧ b5.cell? ⟨q5, 8, none⟩ = some (.string ⟨#[]⟩) := evCells Bb5
                  obtain ⟨z0, z1, z2, z3, z4, z5, z6, z7, z8⟩ := evFree Bb5
                  have Hc5 := Lib.hid Bc5
                  have T6 := Lib.hid (T4.out.trans tc5)
                  have Kc5 := Lib.hid tc5
                  clear Bb5 Bc5 ec5 tb5 tc5
                  obtain ⟨v0, v1, v2, v3, v4, v5, v6, v7, v8⟩ : c5.cell? ⟨q5, 0, none⟩ = some (.int .i64 0) ∧ c5.cell? ⟨q5, 1, none⟩ = some (.int .i64 0) ∧ c5.cell? ⟨q5, 2, none⟩ = some (.string ⟨#[]⟩) ∧ c5.cell? ⟨q5, 3, none⟩ = some (.int .i64 0) ∧ c5.cell? ⟨q5, 4, none⟩ = some (.string ⟨#[]⟩) ∧ c5.cell? ⟨q5, 5, none⟩ = some (.int .i64 0) ∧ c5.cell? ⟨q5, 6, none⟩ = some (.int .i64 0) ∧ c5.cell? ⟨q5, 7, none⟩ = some (.int .i64 0) ∧ c5.cell? ⟨q5, 8, none⟩ = some (.string ⟨#[]⟩) := evCells Hc5.out
                  have hzz := HZZ.out
                  go_wp2_with fail
                  go_roundw
                  case rel => exact ⟨k + 1, by omega, by go_num, T6.out⟩
                  case measure => simp [intOf]; omega
                · obtain rfl : k = 32 := by omega
                  go_wp2_with fail
                  go_meet
                  case rel => exact TX.out.trans TK.out
            case rest =>
              have TR6 : Hid (Turn Nn w wc) := Lib.hid hcut
              clear hcut
              generalize wc = v6 at TR6 ⊢
              have L0 := gives_less HW.out (a := [48]) (b := [48, 46, 48]) (by decide) (by decide) exL0
              have L1 := gives_less HW.out (a := [48, 46, 49, 48]) (b := [48, 46, 50]) (by decide) (by decide) exL1
              have L2 := gives_less HW.out (a := [99, 57]) (b := [48, 43, 48]) (by decide) (by decide) exL2
              have L3 := gives_less HW.out (a := [48, 43, 48]) (b := [99, 57]) (by decide) (by decide) exL3
              have L4 := gives_less HW.out (a := [99, 57]) (b := [99, 49, 48]) (by decide) (by decide) exL4
              have L5 := gives_less HW.out (a := [49, 43, 48]) (b := [48, 46, 53, 43, 48]) (by decide) (by decide) exL5
              have L6 := gives_less HW.out (a := [48, 43, 50]) (b := [48, 43, 49, 48]) (by decide) (by decide) exL6
              have L7 := gives_less HW.out (a := [48]) (b := [99, 48]) (by decide) (by decide) exL7
              have L8 := gives_less HW.out (a := [120]) (b := [121]) (by decide) (by decide) exL8
              have P0 : Gives w 16 #[.string ⟨#[48, 46, 49, 43, 50]⟩] (.string ⟨#[48, 46, 49]⟩) := by
                have := gives_parent HW.out (a := [48, 46, 49, 43, 50]) (by decide)
                rw [exP0] at this
                exact this
              have P1 : Gives w 16 #[.string ⟨#[99, 51]⟩] (.string ⟨#[]⟩) := by
                have := gives_parent HW.out (a := [99, 51]) (by decide)
                rw [exP1] at this
                exact this
              have P2 : Gives w 16 #[.string ⟨#[55]⟩] (.string ⟨#[]⟩) := by
                have := gives_parent HW.out (a := [55]) (by decide)
                rw [exP2] at this
                exact this
              have P3 : Gives w 16 #[.string ⟨#[120, 46, 121]⟩] (.string ⟨#[]⟩) := by
                have := gives_parent HW.out (a := [120, 46, 121]) (by decide)
                rw [exP3] at this
                exact this
              have W20 := gives_works HW.out
              have G0 := Lib.hid L0
              have G1 := Lib.hid L1
              have G2 := Lib.hid L2
              have G3 := Lib.hid L3
              have G4 := Lib.hid L4
              have G5 := Lib.hid L5
              have G6 := Lib.hid L6
              have G7 := Lib.hid L7
              have G8 := Lib.hid L8
              have G9 := Lib.hid P0
              have G10 := Lib.hid P1
              have G11 := Lib.hid P2
              have G12 := Lib.hid P3
              have G13 := Lib.hid W20
              clear L0 L1 L2 L3 L4 L5 L6 L7 L8 P0 P1 P2 P3 W20
              go_wp2_with fail
              refine (G0.out _ TR6.out).mono ?_
              rintro e x0 ⟨rfl, t⟩
              have S0 := Lib.hid (TR6.out.trans t)
              clear t
              go_wp2_with fail
              refine (G1.out _ S0.out).mono ?_
              rintro e x1 ⟨rfl, t⟩
              have S1 := Lib.hid (S0.out.trans t)
              clear t
              go_wp2_with fail
              refine (G2.out _ S1.out).mono ?_
              rintro e x2 ⟨rfl, t⟩
              have S2 := Lib.hid (S1.out.trans t)
              clear t
              go_wp2_with fail
              refine (G3.out _ S2.out).mono ?_
              rintro e x3 ⟨rfl, t⟩
              have S3 := Lib.hid (S2.out.trans t)
              clear t
              go_wp2_with fail
              refine (G4.out _ S3.out).mono ?_
              rintro e x4 ⟨rfl, t⟩
              have S4 := Lib.hid (S3.out.trans t)
              clear t
              go_wp2_with fail
              refine (G5.out _ S4.out).mono ?_
              rintro e x5 ⟨rfl, t⟩
              have S5 := Lib.hid (S4.out.trans t)
              clear t
              go_wp2_with fail
              refine (G6.out _ S5.out).mono ?_
              rintro e x6 ⟨rfl, t⟩
              have S6 := Lib.hid (S5.out.trans t)
              clear t
              go_wp2_with fail
              refine (G7.out _ S6.out).mono ?_
              rintro e x7 ⟨rfl, t⟩
              have S7 := Lib.hid (S6.out.trans t)
              clear t
              go_wp2_with fail
              refine (G8.out _ S7.out).mono ?_
              rintro e x8 ⟨rfl, t⟩
              have S8 := Lib.hid (S7.out.trans t)
              clear t
              go_wp2_with fail
              refine (G9.out _ S8.out).mono ?_
              rintro e x9 ⟨rfl, t⟩
              have S9 := Lib.hid (S8.out.trans t)
              clear t
              go_wp2_with fail
              refine (G10.out _ S9.out).mono ?_
              rintro e x10 ⟨rfl, t⟩
              have S10 := Lib.hid (S9.out.trans t)
              clear t
              go_wp2_with fail
              refine (G11.out _ S10.out).mono ?_
              rintro e x11 ⟨rfl, t⟩
              have S11 := Lib.hid (S10.out.trans t)
              clear t
              go_wp2_with fail
              refine (G12.out _ S11.out).mono ?_
              rintro e x12 ⟨rfl, t⟩
              have S12 := Lib.hid (S11.out.trans t)
              clear t
              go_wp2_with fail
              refine (G13.out _ S12.out).mono ?_
              rintro e x13 ⟨rfl, t⟩
              have S13 := Lib.hid (S12.out.trans t)
              clear t
              go_wp2_with fail
              go_ret
              exact ⟨rfl, S13.out⟩
end
end Go.Proofs.YtpbjblbeepbklaaGreatDoor
