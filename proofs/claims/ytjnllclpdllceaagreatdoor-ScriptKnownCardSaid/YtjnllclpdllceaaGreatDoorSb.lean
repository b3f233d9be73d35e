/- A turn that may be. -/
import Derived.Test.YtjnllclpdllceaaGreatDoorSa
import Derived.Deep.RegionHeld3
import Derived.Deep.RegionWith
namespace Go.Proofs.YtjnllclpdllceaaGreatDoor
set_option linter.unusedSimpArgs false
set_option linter.unusedVariables false
open Go.RowKit

set_option maxRecDepth 100000 in
set_option maxHeartbeats 8000000 in
theorem turn_pick (a b : Int) (w : World) :
    Calls Tryz.prog 20 #[.agg #[.int .i64 0, .int .i64 a, .int .i64 b]] w fun e w' => e = .returned (.bool (decide (0 ≤ a) && decide (a ≤ 99) && decide (1 ≤ b) && decide (b ≤ 1000))) ∧ Turn Nn w w' := by
  have hi : ∀ w, (Instr.index 74 (.agg kindsC) (.int .i64 0)).run Tryz.prog w = .ok (.agg #[.string ⟨#[112, 105, 99, 107]⟩, .bool true, .bool true]) w := fun w => by kernel_rfl
  go_enter Tryz.func20, Tryz.ntmps20
  go_wp2_with fail
  rename_i K hK
  have c1 : K { tmps := #[.agg #[.int .i64 0, .int .i64 a, .int .i64 b], .pointer (some ⟨w.heap.size, 0, none⟩), .bool false, .pointer (some ⟨w.heap.size + 1 + 1, 0, none⟩), .pointer (some ⟨w.heap.size, 0, none⟩), .int .i64 0, .bool false, .bool false, .pointer (some ⟨w.heap.size, 0, none⟩), .int .i64 0, .bool false, .bool false, .agg kindsC, .pointer (some ⟨w.heap.size, 0, none⟩), .int .i64 0, .agg #[.string ⟨#[112, 105, 99, 107]⟩, .bool true, .bool true], undef, undef, undef, undef, undef, undef, undef, undef, undef, undef, undef, undef, undef, undef, undef, undef, undef, undef, undef, undef, undef, undef, undef, undef, undef, undef, undef, undef, undef, undef, undef, undef, undef], defers := [] } ((((w.alloc (.cells #[.int .i64 0, .int .i64 a, .int .i64 b] 60)).alloc (.cells kindsC 74)).alloc (.cells #[.string ⟨#[112, 105, 99, 107]⟩, .bool true, .bool true] 73)).drew) := by
    refine hK _ _ ?_
    by_cases h42 : 0 ≤ a
    · by_cases h61 : a ≤ 99
      · by_cases h82 : 1 ≤ b
        · by_cases h101 : b ≤ 1000
          · go_wp2
            go_ret
            refine ⟨by first | rfl | (congr 1; done) | (congr 1; simp <;> omega), ?_⟩
            repeat (first | exact Turn.refl _ _ | refine Turn.alloc ?_ _ | refine Turn.drew ?_ | refine Turn.setCell ?_ (.inr (by simp)) _)
          · go_wp2
            go_ret
            refine ⟨by first | rfl | (congr 1; done) | (congr 1; simp <;> omega), ?_⟩
            repeat (first | exact Turn.refl _ _ | refine Turn.alloc ?_ _ | refine Turn.drew ?_ | refine Turn.setCell ?_ (.inr (by simp)) _)
        · go_wp2
          go_ret
          refine ⟨by first | rfl | (congr 1; done) | (congr 1; simp <;> omega), ?_⟩
          repeat (first | exact Turn.refl _ _ | refine Turn.alloc ?_ _ | refine Turn.drew ?_ | refine Turn.setCell ?_ (.inr (by simp)) _)
      · by_cases h82 : 1 ≤ b
        · by_cases h101 : b ≤ 1000
          · go_wp2
            go_ret
            refine ⟨by first | rfl | (congr 1; done) | (congr 1; simp <;> omega), ?_⟩
            repeat (first | exact Turn.refl _ _ | refine Turn.alloc ?_ _ | refine Turn.drew ?_ | refine Turn.setCell ?_ (.inr (by simp)) _)
          · go_wp2
            go_ret
            refine ⟨by first | rfl | (congr 1; done) | (congr 1; simp <;> omega), ?_⟩
            repeat (first | exact Turn.refl _ _ | refine Turn.alloc ?_ _ | refine Turn.drew ?_ | refine Turn.setCell ?_ (.inr (by simp)) _)
        · go_wp2
          go_ret
          refine ⟨by first | rfl | (congr 1; done) | (congr 1; simp <;> omega), ?_⟩
          repeat (first | exact Turn.refl _ _ | refine Turn.alloc ?_ _ | refine Turn.drew ?_ | refine Turn.setCell ?_ (.inr (by simp)) _)
    · by_cases h62 : 1 ≤ b
      · by_cases h81 : b ≤ 1000
        · go_wp2
          go_ret
          refine ⟨by first | rfl | (congr 1; done) | (congr 1; simp <;> omega), ?_⟩
          repeat (first | exact Turn.refl _ _ | refine Turn.alloc ?_ _ | refine Turn.drew ?_ | refine Turn.setCell ?_ (.inr (by simp)) _)
        · go_wp2
          go_ret
          refine ⟨by first | rfl | (congr 1; done) | (congr 1; simp <;> omega), ?_⟩
          repeat (first | exact Turn.refl _ _ | refine Turn.alloc ?_ _ | refine Turn.drew ?_ | refine Turn.setCell ?_ (.inr (by simp)) _)
      · go_wp2
        go_ret
        refine ⟨by first | rfl | (congr 1; done) | (congr 1; simp <;> omega), ?_⟩
        repeat (first | exact Turn.refl _ _ | refine Turn.alloc ?_ _ | refine Turn.drew ?_ | refine Turn.setCell ?_ (.inr (by simp)) _)
  have c2 : K { tmps := #[.agg #[.int .i64 0, .int .i64 a, .int .i64 b], .pointer (some ⟨w.heap.size, 0, none⟩), .bool false, .pointer (some ⟨w.heap.size + 1, 0, none⟩), .pointer (some ⟨w.heap.size, 0, none⟩), .int .i64 0, .bool false, .bool false, .pointer (some ⟨w.heap.size, 0, none⟩), .int .i64 0, .bool false, .bool false, .agg kindsC, .pointer (some ⟨w.heap.size, 0, none⟩), .int .i64 0, .agg #[.string ⟨#[112, 105, 99, 107]⟩, .bool true, .bool true], undef, undef, undef, undef, undef, undef, undef, undef, undef, undef, undef, undef, undef, undef, undef, undef, undef, undef, undef, undef, undef, undef, undef, undef, undef, undef, undef, undef, undef, undef, undef, undef, undef], defers := [] } ((((w.alloc (.cells #[.int .i64 0, .int .i64 a, .int .i64 b] 60)).alloc (.cells #[.string ⟨#[112, 105, 99, 107]⟩, .bool true, .bool true] 73)).alloc (.cells kindsC 74)).drew) := by
    refine hK _ _ ?_
    by_cases h42 : 0 ≤ a
    · by_cases h61 : a ≤ 99
      · by_cases h82 : 1 ≤ b
        · by_cases h101 : b ≤ 1000
          · go_wp2
            go_ret
            refine ⟨by first | rfl | (congr 1; done) | (congr 1; simp <;> omega), ?_⟩
            repeat (first | exact Turn.refl _ _ | refine Turn.alloc ?_ _ | refine Turn.drew ?_ | refine Turn.setCell ?_ (.inr (by simp)) _)
          · go_wp2
            go_ret
            refine ⟨by first | rfl | (congr 1; done) | (congr 1; simp <;> omega), ?_⟩
            repeat (first | exact Turn.refl _ _ | refine Turn.alloc ?_ _ | refine Turn.drew ?_ | refine Turn.setCell ?_ (.inr (by simp)) _)
        · go_wp2
          go_ret
          refine ⟨by first | rfl | (congr 1; done) | (congr 1; simp <;> omega), ?_⟩
          repeat (first | exact Turn.refl _ _ | refine Turn.alloc ?_ _ | refine Turn.drew ?_ | refine Turn.setCell ?_ (.inr (by simp)) _)
      · by_cases h82 : 1 ≤ b
        · by_cases h101 : b ≤ 1000
          · go_wp2
            go_ret
            refine ⟨by first | rfl | (congr 1; done) | (congr 1; simp <;> omega), ?_⟩
            repeat (first | exact Turn.refl _ _ | refine Turn.alloc ?_ _ | refine Turn.drew ?_ | refine Turn.setCell ?_ (.inr (by simp)) _)
          · go_wp2
            go_ret
            refine ⟨by first | rfl | (congr 1; done) | (congr 1; simp <;> omega), ?_⟩
            repeat (first | exact Turn.refl _ _ | refine Turn.alloc ?_ _ | refine Turn.drew ?_ | refine Turn.setCell ?_ (.inr (by simp)) _)
        · go_wp2
          go_ret
          refine ⟨by first | rfl | (congr 1; done) | (congr 1; simp <;> omega), ?_⟩
          repeat (first | exact Turn.refl _ _ | refine Turn.alloc ?_ _ | refine Turn.drew ?_ | refine Turn.setCell ?_ (.inr (by simp)) _)
    · by_cases h62 : 1 ≤ b
      · by_cases h81 : b ≤ 1000
        · go_wp2
          go_ret
          refine ⟨by first | rfl | (congr 1; done) | (congr 1; simp <;> omega), ?_⟩
          repeat (first | exact Turn.refl _ _ | refine Turn.alloc ?_ _ | refine Turn.drew ?_ | refine Turn.setCell ?_ (.inr (by simp)) _)
        · go_wp2
          go_ret
          refine ⟨by first | rfl | (congr 1; done) | (congr 1; simp <;> omega), ?_⟩
          repeat (first | exact Turn.refl _ _ | refine Turn.alloc ?_ _ | refine Turn.drew ?_ | refine Turn.setCell ?_ (.inr (by simp)) _)
      · go_wp2
        go_ret
        refine ⟨by first | rfl | (congr 1; done) | (congr 1; simp <;> omega), ?_⟩
        repeat (first | exact Turn.refl _ _ | refine Turn.alloc ?_ _ | refine Turn.drew ?_ | refine Turn.setCell ?_ (.inr (by simp)) _)
  go_region_with (go_at_call 26; refine (kinds_any _).mono ?_; rintro e w' ⟨rfl, rfl⟩)
  all_goals (first | exact c1 | exact c2)

set_option maxRecDepth 100000 in
set_option maxHeartbeats 8000000 in
theorem turn_round (a b : Int) (w : World) :
    Calls Tryz.prog 20 #[.agg #[.int .i64 1, .int .i64 a, .int .i64 b]] w fun e w' => e = .returned (.bool (decide (a = 0) && decide (1 ≤ b) && decide (b ≤ 1000))) ∧ Turn Nn w w' := by
  have hi : ∀ w, (Instr.index 74 (.agg kindsC) (.int .i64 1)).run Tryz.prog w = .ok (.agg #[.string ⟨#[114, 111, 117, 110, 100]⟩, .bool false, .bool true]) w := fun w => by kernel_rfl
  go_enter Tryz.func20, Tryz.ntmps20
  go_wp2_with fail
  rename_i K hK
  have c1 : K { tmps := #[.agg #[.int .i64 1, .int .i64 a, .int .i64 b], .pointer (some ⟨w.heap.size, 0, none⟩), .bool false, .pointer (some ⟨w.heap.size + 1 + 1, 0, none⟩), .pointer (some ⟨w.heap.size, 0, none⟩), .int .i64 1, .bool false, .bool false, .pointer (some ⟨w.heap.size, 0, none⟩), .int .i64 1, .bool false, .bool false, .agg kindsC, .pointer (some ⟨w.heap.size, 0, none⟩), .int .i64 1, .agg #[.string ⟨#[114, 111, 117, 110, 100]⟩, .bool false, .bool true], undef, undef, undef, undef, undef, undef, undef, undef, undef, undef, undef, undef, undef, undef, undef, undef, undef, undef, undef, undef, undef, undef, undef, undef, undef, undef, undef, undef, undef, undef, undef, undef, undef], defers := [] } ((((w.alloc (.cells #[.int .i64 1, .int .i64 a, .int .i64 b] 60)).alloc (.cells kindsC 74)).alloc (.cells #[.string ⟨#[114, 111, 117, 110, 100]⟩, .bool false, .bool true] 73)).drew) := by
    refine hK _ _ ?_
    by_cases h41 : a = 0
    · by_cases h62 : 1 ≤ b
      · by_cases h81 : b ≤ 1000
        · go_wp2
          go_ret
          refine ⟨by first | rfl | (congr 1; done) | (congr 1; simp <;> omega), ?_⟩
          repeat (first | exact Turn.refl _ _ | refine Turn.alloc ?_ _ | refine Turn.drew ?_ | refine Turn.setCell ?_ (.inr (by simp)) _)
        · go_wp2
          go_ret
          refine ⟨by first | rfl | (congr 1; done) | (congr 1; simp <;> omega), ?_⟩
          repeat (first | exact Turn.refl _ _ | refine Turn.alloc ?_ _ | refine Turn.drew ?_ | refine Turn.setCell ?_ (.inr (by simp)) _)
      · go_wp2
        go_ret
        refine ⟨by first | rfl | (congr 1; done) | (congr 1; simp <;> omega), ?_⟩
        repeat (first | exact Turn.refl _ _ | refine Turn.alloc ?_ _ | refine Turn.drew ?_ | refine Turn.setCell ?_ (.inr (by simp)) _)
    · by_cases h62 : 1 ≤ b
      · by_cases h81 : b ≤ 1000
        · go_wp2
          go_ret
          refine ⟨by first | rfl | (congr 1; done) | (congr 1; simp <;> omega), ?_⟩
          repeat (first | exact Turn.refl _ _ | refine Turn.alloc ?_ _ | refine Turn.drew ?_ | refine Turn.setCell ?_ (.inr (by simp)) _)
        · go_wp2
          go_ret
          refine ⟨by first | rfl | (congr 1; done) | (congr 1; simp <;> omega), ?_⟩
          repeat (first | exact Turn.refl _ _ | refine Turn.alloc ?_ _ | refine Turn.drew ?_ | refine Turn.setCell ?_ (.inr (by simp)) _)
      · go_wp2
        go_ret
        refine ⟨by first | rfl | (congr 1; done) | (congr 1; simp <;> omega), ?_⟩
        repeat (first | exact Turn.refl _ _ | refine Turn.alloc ?_ _ | refine Turn.drew ?_ | refine Turn.setCell ?_ (.inr (by simp)) _)
  have c2 : K { tmps := #[.agg #[.int .i64 1, .int .i64 a, .int .i64 b], .pointer (some ⟨w.heap.size, 0, none⟩), .bool false, .pointer (some ⟨w.heap.size + 1, 0, none⟩), .pointer (some ⟨w.heap.size, 0, none⟩), .int .i64 1, .bool false, .bool false, .pointer (some ⟨w.heap.size, 0, none⟩), .int .i64 1, .bool false, .bool false, .agg kindsC, .pointer (some ⟨w.heap.size, 0, none⟩), .int .i64 1, .agg #[.string ⟨#[114, 111, 117, 110, 100]⟩, .bool false, .bool true], undef, undef, undef, undef, undef, undef, undef, undef, undef, undef, undef, undef, undef, undef, undef, undef, undef, undef, undef, undef, undef, undef, undef, undef, undef, undef, undef, undef, undef, undef, undef, undef, undef], defers := [] } ((((w.alloc (.cells #[.int .i64 1, .int .i64 a, .int .i64 b] 60)).alloc (.cells #[.string ⟨#[114, 111, 117, 110, 100]⟩, .bool false, .bool true] 73)).alloc (.cells kindsC 74)).drew) := by
    refine hK _ _ ?_
    by_cases h41 : a = 0
    · by_cases h62 : 1 ≤ b
      · by_cases h81 : b ≤ 1000
        · go_wp2
          go_ret
          refine ⟨by first | rfl | (congr 1; done) | (congr 1; simp <;> omega), ?_⟩
          repeat (first | exact Turn.refl _ _ | refine Turn.alloc ?_ _ | refine Turn.drew ?_ | refine Turn.setCell ?_ (.inr (by simp)) _)
        · go_wp2
          go_ret
          refine ⟨by first | rfl | (congr 1; done) | (congr 1; simp <;> omega), ?_⟩
          repeat (first | exact Turn.refl _ _ | refine Turn.alloc ?_ _ | refine Turn.drew ?_ | refine Turn.setCell ?_ (.inr (by simp)) _)
      · go_wp2
        go_ret
        refine ⟨by first | rfl | (congr 1; done) | (congr 1; simp <;> omega), ?_⟩
        repeat (first | exact Turn.refl _ _ | refine Turn.alloc ?_ _ | refine Turn.drew ?_ | refine Turn.setCell ?_ (.inr (by simp)) _)
    · by_cases h62 : 1 ≤ b
      · by_cases h81 : b ≤ 1000
        · go_wp2
          go_ret
          refine ⟨by first | rfl | (congr 1; done) | (congr 1; simp <;> omega), ?_⟩
          repeat (first | exact Turn.refl _ _ | refine Turn.alloc ?_ _ | refine Turn.drew ?_ | refine Turn.setCell ?_ (.inr (by simp)) _)
        · go_wp2
          go_ret
          refine ⟨by first | rfl | (congr 1; done) | (congr 1; simp <;> omega), ?_⟩
          repeat (first | exact Turn.refl _ _ | refine Turn.alloc ?_ _ | refine Turn.drew ?_ | refine Turn.setCell ?_ (.inr (by simp)) _)
      · go_wp2
        go_ret
        refine ⟨by first | rfl | (congr 1; done) | (congr 1; simp <;> omega), ?_⟩
        repeat (first | exact Turn.refl _ _ | refine Turn.alloc ?_ _ | refine Turn.drew ?_ | refine Turn.setCell ?_ (.inr (by simp)) _)
  go_region_with (go_at_call 26; refine (kinds_any _).mono ?_; rintro e w' ⟨rfl, rfl⟩)
  all_goals (first | exact c1 | exact c2)

set_option maxRecDepth 100000 in
set_option maxHeartbeats 8000000 in
theorem turn_show (a b : Int) (w : World) :
    Calls Tryz.prog 20 #[.agg #[.int .i64 2, .int .i64 a, .int .i64 b]] w fun e w' => e = .returned (.bool (decide (a = 0) && decide (b = 0))) ∧ Turn Nn w w' := by
  have hi : ∀ w, (Instr.index 74 (.agg kindsC) (.int .i64 2)).run Tryz.prog w = .ok (.agg #[.string ⟨#[115, 104, 111, 119]⟩, .bool false, .bool false]) w := fun w => by kernel_rfl
  go_enter Tryz.func20, Tryz.ntmps20
  go_wp2_with fail
  rename_i K hK
  have c1 : K { tmps := #[.agg #[.int .i64 2, .int .i64 a, .int .i64 b], .pointer (some ⟨w.heap.size, 0, none⟩), .bool false, .pointer (some ⟨w.heap.size + 1 + 1, 0, none⟩), .pointer (some ⟨w.heap.size, 0, none⟩), .int .i64 2, .bool false, .bool false, .pointer (some ⟨w.heap.size, 0, none⟩), .int .i64 2, .bool false, .bool false, .agg kindsC, .pointer (some ⟨w.heap.size, 0, none⟩), .int .i64 2, .agg #[.string ⟨#[115, 104, 111, 119]⟩, .bool false, .bool false], undef, undef, undef, undef, undef, undef, undef, undef, undef, undef, undef, undef, undef, undef, undef, undef, undef, undef, undef, undef, undef, undef, undef, undef, undef, undef, undef, undef, undef, undef, undef, undef, undef], defers := [] } ((((w.alloc (.cells #[.int .i64 2, .int .i64 a, .int .i64 b] 60)).alloc (.cells kindsC 74)).alloc (.cells #[.string ⟨#[115, 104, 111, 119]⟩, .bool false, .bool false] 73)).drew) := by
    refine hK _ _ ?_
    by_cases h41 : a = 0
    · by_cases h61 : b = 0
      · go_wp2
        go_ret
        refine ⟨by first | rfl | (congr 1; done) | (congr 1; simp <;> omega), ?_⟩
        repeat (first | exact Turn.refl _ _ | refine Turn.alloc ?_ _ | refine Turn.drew ?_ | refine Turn.setCell ?_ (.inr (by simp)) _)
      · go_wp2
        go_ret
        refine ⟨by first | rfl | (congr 1; done) | (congr 1; simp <;> omega), ?_⟩
        repeat (first | exact Turn.refl _ _ | refine Turn.alloc ?_ _ | refine Turn.drew ?_ | refine Turn.setCell ?_ (.inr (by simp)) _)
    · by_cases h61 : b = 0
      · go_wp2
        go_ret
        refine ⟨by first | rfl | (congr 1; done) | (congr 1; simp <;> omega), ?_⟩
        repeat (first | exact Turn.refl _ _ | refine Turn.alloc ?_ _ | refine Turn.drew ?_ | refine Turn.setCell ?_ (.inr (by simp)) _)
      · go_wp2
        go_ret
        refine ⟨by first | rfl | (congr 1; done) | (congr 1; simp <;> omega), ?_⟩
        repeat (first | exact Turn.refl _ _ | refine Turn.alloc ?_ _ | refine Turn.drew ?_ | refine Turn.setCell ?_ (.inr (by simp)) _)
  have c2 : K { tmps := #[.agg #[.int .i64 2, .int .i64 a, .int .i64 b], .pointer (some ⟨w.heap.size, 0, none⟩), .bool false, .pointer (some ⟨w.heap.size + 1, 0, none⟩), .pointer (some ⟨w.heap.size, 0, none⟩), .int .i64 2, .bool false, .bool false, .pointer (some ⟨w.heap.size, 0, none⟩), .int .i64 2, .bool false, .bool false, .agg kindsC, .pointer (some ⟨w.heap.size, 0, none⟩), .int .i64 2, .agg #[.string ⟨#[115, 104, 111, 119]⟩, .bool false, .bool false], undef, undef, undef, undef, undef, undef, undef, undef, undef, undef, undef, undef, undef, undef, undef, undef, undef, undef, undef, undef, undef, undef, undef, undef, undef, undef, undef, undef, undef, undef, undef, undef, undef], defers := [] } ((((w.alloc (.cells #[.int .i64 2, .int .i64 a, .int .i64 b] 60)).alloc (.cells #[.string ⟨#[115, 104, 111, 119]⟩, .bool false, .bool false] 73)).alloc (.cells kindsC 74)).drew) := by
    refine hK _ _ ?_
    by_cases h41 : a = 0
    · by_cases h61 : b = 0
      · go_wp2
        go_ret
        refine ⟨by first | rfl | (congr 1; done) | (congr 1; simp <;> omega), ?_⟩
        repeat (first | exact Turn.refl _ _ | refine Turn.alloc ?_ _ | refine Turn.drew ?_ | refine Turn.setCell ?_ (.inr (by simp)) _)
      · go_wp2
        go_ret
        refine ⟨by first | rfl | (congr 1; done) | (congr 1; simp <;> omega), ?_⟩
        repeat (first | exact Turn.refl _ _ | refine Turn.alloc ?_ _ | refine Turn.drew ?_ | refine Turn.setCell ?_ (.inr (by simp)) _)
    · by_cases h61 : b = 0
      · go_wp2
        go_ret
        refine ⟨by first | rfl | (congr 1; done) | (congr 1; simp <;> omega), ?_⟩
        repeat (first | exact Turn.refl _ _ | refine Turn.alloc ?_ _ | refine Turn.drew ?_ | refine Turn.setCell ?_ (.inr (by simp)) _)
      · go_wp2
        go_ret
        refine ⟨by first | rfl | (congr 1; done) | (congr 1; simp <;> omega), ?_⟩
        repeat (first | exact Turn.refl _ _ | refine Turn.alloc ?_ _ | refine Turn.drew ?_ | refine Turn.setCell ?_ (.inr (by simp)) _)
  go_region_with (go_at_call 26; refine (kinds_any _).mono ?_; rintro e w' ⟨rfl, rfl⟩)
  all_goals (first | exact c1 | exact c2)

set_option maxRecDepth 100000 in
set_option maxHeartbeats 8000000 in
theorem turn_rows (a b : Int) (w : World) :
    Calls Tryz.prog 20 #[.agg #[.int .i64 3, .int .i64 a, .int .i64 b]] w fun e w' => e = .returned (.bool (decide (a = 0) && decide (b = 0))) ∧ Turn Nn w w' := by
  have hi : ∀ w, (Instr.index 74 (.agg kindsC) (.int .i64 3)).run Tryz.prog w = .ok (.agg #[.string ⟨#[114, 111, 119, 115]⟩, .bool false, .bool false]) w := fun w => by kernel_rfl
  go_enter Tryz.func20, Tryz.ntmps20
  go_wp2_with fail
  rename_i K hK
  have c1 : K { tmps := #[.agg #[.int .i64 3, .int .i64 a, .int .i64 b], .pointer (some ⟨w.heap.size, 0, none⟩), .bool false, .pointer (some ⟨w.heap.size + 1 + 1, 0, none⟩), .pointer (some ⟨w.heap.size, 0, none⟩), .int .i64 3, .bool false, .bool false, .pointer (some ⟨w.heap.size, 0, none⟩), .int .i64 3, .bool false, .bool false, .agg kindsC, .pointer (some ⟨w.heap.size, 0, none⟩), .int .i64 3, .agg #[.string ⟨#[114, 111, 119, 115]⟩, .bool false, .bool false], undef, undef, undef, undef, undef, undef, undef, undef, undef, undef, undef, undef, undef, undef, undef, undef, undef, undef, undef, undef, undef, undef, undef, undef, undef, undef, undef, undef, undef, undef, undef, undef, undef], defers := [] } ((((w.alloc (.cells #[.int .i64 3, .int .i64 a, .int .i64 b] 60)).alloc (.cells kindsC 74)).alloc (.cells #[.string ⟨#[114, 111, 119, 115]⟩, .bool false, .bool false] 73)).drew) := by
    refine hK _ _ ?_
    by_cases h41 : a = 0
    · by_cases h61 : b = 0
      · go_wp2
        go_ret
        refine ⟨by first | rfl | (congr 1; done) | (congr 1; simp <;> omega), ?_⟩
        repeat (first | exact Turn.refl _ _ | refine Turn.alloc ?_ _ | refine Turn.drew ?_ | refine Turn.setCell ?_ (.inr (by simp)) _)
      · go_wp2
        go_ret
        refine ⟨by first | rfl | (congr 1; done) | (congr 1; simp <;> omega), ?_⟩
        repeat (first | exact Turn.refl _ _ | refine Turn.alloc ?_ _ | refine Turn.drew ?_ | refine Turn.setCell ?_ (.inr (by simp)) _)
    · by_cases h61 : b = 0
      · go_wp2
        go_ret
        refine ⟨by first | rfl | (congr 1; done) | (congr 1; simp <;> omega), ?_⟩
        repeat (first | exact Turn.refl _ _ | refine Turn.alloc ?_ _ | refine Turn.drew ?_ | refine Turn.setCell ?_ (.inr (by simp)) _)
      · go_wp2
        go_ret
        refine ⟨by first | rfl | (congr 1; done) | (congr 1; simp <;> omega), ?_⟩
        repeat (first | exact Turn.refl _ _ | refine Turn.alloc ?_ _ | refine Turn.drew ?_ | refine Turn.setCell ?_ (.inr (by simp)) _)
  have c2 : K { tmps := #[.agg #[.int .i64 3, .int .i64 a, .int .i64 b], .pointer (some ⟨w.heap.size, 0, none⟩), .bool false, .pointer (some ⟨w.heap.size + 1, 0, none⟩), .pointer (some ⟨w.heap.size, 0, none⟩), .int .i64 3, .bool false, .bool false, .pointer (some ⟨w.heap.size, 0, none⟩), .int .i64 3, .bool false, .bool false, .agg kindsC, .pointer (some ⟨w.heap.size, 0, none⟩), .int .i64 3, .agg #[.string ⟨#[114, 111, 119, 115]⟩, .bool false, .bool false], undef, undef, undef, undef, undef, undef, undef, undef, undef, undef, undef, undef, undef, undef, undef, undef, undef, undef, undef, undef, undef, undef, undef, undef, undef, undef, undef, undef, undef, undef, undef, undef, undef], defers := [] } ((((w.alloc (.cells #[.int .i64 3, .int .i64 a, .int .i64 b] 60)).alloc (.cells #[.string ⟨#[114, 111, 119, 115]⟩, .bool false, .bool false] 73)).alloc (.cells kindsC 74)).drew) := by
    refine hK _ _ ?_
    by_cases h41 : a = 0
    · by_cases h61 : b = 0
      · go_wp2
        go_ret
        refine ⟨by first | rfl | (congr 1; done) | (congr 1; simp <;> omega), ?_⟩
        repeat (first | exact Turn.refl _ _ | refine Turn.alloc ?_ _ | refine Turn.drew ?_ | refine Turn.setCell ?_ (.inr (by simp)) _)
      · go_wp2
        go_ret
        refine ⟨by first | rfl | (congr 1; done) | (congr 1; simp <;> omega), ?_⟩
        repeat (first | exact Turn.refl _ _ | refine Turn.alloc ?_ _ | refine Turn.drew ?_ | refine Turn.setCell ?_ (.inr (by simp)) _)
    · by_cases h61 : b = 0
      · go_wp2
        go_ret
        refine ⟨by first | rfl | (congr 1; done) | (congr 1; simp <;> omega), ?_⟩
        repeat (first | exact Turn.refl _ _ | refine Turn.alloc ?_ _ | refine Turn.drew ?_ | refine Turn.setCell ?_ (.inr (by simp)) _)
      · go_wp2
        go_ret
        refine ⟨by first | rfl | (congr 1; done) | (congr 1; simp <;> omega), ?_⟩
        repeat (first | exact Turn.refl _ _ | refine Turn.alloc ?_ _ | refine Turn.drew ?_ | refine Turn.setCell ?_ (.inr (by simp)) _)
  go_region_with (go_at_call 26; refine (kinds_any _).mono ?_; rintro e w' ⟨rfl, rfl⟩)
  all_goals (first | exact c1 | exact c2)
end Go.Proofs.YtjnllclpdllceaaGreatDoor
