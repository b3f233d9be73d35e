/- The settings and the turns that may be. -/
import Derived.Test.YtjnllclpdllceaaGreatDoorProg
import Derived.Test.YtjnllclpdllceaaGreatDoorSu
import Derived.WalkKit
import Derived.WalkSpells
import Derived.WalkLawsBesides
import Derived.Deep.QuietTactic
import Derived.BigQuiet
import Derived.StillTailTactics
import Derived.KernelRfl
import Derived.Lib.Hide
namespace Go.Proofs.YtjnllclpdllceaaGreatDoor
set_option linter.unusedSimpArgs false
set_option linter.unusedVariables false
open Go.RowKit

/-- w' is w but for blocks of S and what is new. -/
structure Turn (S : Nat → Prop) (w w' : World) : Prop where
  os : w'.os = w.os
  tape : w'.tape = w.tape
  output : w'.output = w.output
  size : w.heap.size ≤ w'.heap.size
  block : ∀ k, k < w.heap.size → ¬ S k → w'.heap[k]? = w.heap[k]?

def Nn (_ : Nat) : Prop := False

theorem Turn.refl (S : Nat → Prop) (w : World) : Turn S w w := ⟨rfl, rfl, rfl, Nat.le_refl _, fun _ _ _ => rfl⟩
theorem Turn.trans {S : Nat → Prop} {a b c : World} (h : Turn S a b) (k : Turn S b c) : Turn S a c :=
  ⟨k.os.trans h.os, k.tape.trans h.tape, k.output.trans h.output, Nat.le_trans h.size k.size, fun i hi hs => (k.block i (Nat.lt_of_lt_of_le hi h.size) hs).trans (h.block i hi hs)⟩
theorem Turn.mono {S T : Nat → Prop} {a b : World} (h : Turn S a b) (hs : ∀ k, S k → T k) : Turn T a b :=
  ⟨h.os, h.tape, h.output, h.size, fun i hi hn => h.block i hi (fun hk => hn (hs i hk))⟩
theorem Turn.drewN {S : Nat → Prop} {a w : World} (h : Turn S a w) (n : Nat) : Turn S a (w.drewN n) := h.trans ⟨rfl, rfl, rfl, Nat.le_refl _, fun _ _ _ => rfl⟩
theorem Turn.drew {S : Nat → Prop} {a w : World} (h : Turn S a w) : Turn S a w.drew := h.trans ⟨rfl, rfl, rfl, Nat.le_refl _, fun _ _ _ => rfl⟩
theorem Turn.alloc {S : Nat → Prop} {a w : World} (h : Turn S a w) (o : Obj) : Turn S a (w.alloc o) :=
  h.trans ⟨rfl, rfl, rfl, by simp, fun k hk _ => Below.heap_alloc _ _ _ hk⟩
theorem Turn.setCell {S : Nat → Prop} {a w : World} (h : Turn S a w) {p : Addr} (hp : S p.block ∨ a.heap.size ≤ p.block) (u : Value) : Turn S a (w.setCell p u) :=
  ⟨h.os, h.tape, h.output, by simp [World.setCell]; exact h.size, fun k hk hs => by
    rw [Below.heap_setCell _ _ _ _ (by rintro rfl; rcases hp with hp | hp; exact hs hp; omega)]; exact h.block k hk hs⟩

theorem heap_setCell_at {w : World} {b : Nat} {c : Array Value} {t : TypeId} (h : w.heap[b]? = some (.cells c t)) (i : Nat) (v : Value) :
    (w.setCell ⟨b, i, none⟩ v).heap[b]? = some (.cells (c.setIfInBounds i v) t) := by
  simp [World.setCell, Array.getElem?_modify, h]

set_option maxHeartbeats 1000000 in
theorem config_any (a b c : Int) (w : World) :
    Calls Tryz.prog 21 #[.agg #[.int .i64 a, .int .i64 b, .int .i64 c]] w fun e w' => e = .returned (.bool (configOk a b c)) ∧ w' = w.alloc (.cells #[.int .i64 a, .int .i64 b, .int .i64 c] 23) := by
  have hd : configOk a b c = (decide (0 < a) && decide (a ≤ 64) && decide (0 < b) && decide (b ≤ 32) && decide (0 < c) && decide (c ≤ 16)) := by
    unfold configOk
    rw [Bool.eq_iff_iff]; simp; omega
  rw [hd]
  by_cases h1 : 0 < a
  · by_cases h2 : a ≤ 64
    · by_cases h3 : 0 < b
      · by_cases h4 : b ≤ 32
        · by_cases h5 : 0 < c
          · go_enter Tryz.func21, Tryz.ntmps21
            go_wp2
            go_ret
            exact ⟨by congr 1; simp <;> omega, rfl⟩
          · go_enter Tryz.func21, Tryz.ntmps21
            go_wp2
            go_ret
            exact ⟨by congr 1; simp <;> omega, rfl⟩
        · go_enter Tryz.func21, Tryz.ntmps21
          go_wp2
          go_ret
          exact ⟨by congr 1; simp <;> omega, rfl⟩
      · go_enter Tryz.func21, Tryz.ntmps21
        go_wp2
        go_ret
        exact ⟨by congr 1; simp <;> omega, rfl⟩
    · go_enter Tryz.func21, Tryz.ntmps21
      go_wp2
      go_ret
      exact ⟨by congr 1; simp <;> omega, rfl⟩
  · go_enter Tryz.func21, Tryz.ntmps21
    go_wp2
    go_ret
    exact ⟨by congr 1; simp <;> omega, rfl⟩

def kindsC : Array Value := #[.string ⟨#[112, 105, 99, 107]⟩, .bool true, .bool true, .string ⟨#[114, 111, 117, 110, 100]⟩, .bool false, .bool true, .string ⟨#[115, 104, 111, 119]⟩, .bool false, .bool false, .string ⟨#[114, 111, 119, 115]⟩, .bool false, .bool false]

set_option maxHeartbeats 1000000 in
theorem kinds_any (w : World) :
    Calls Tryz.prog 26 #[] w fun e w' => e = .returned (.agg kindsC) ∧ w' = w.alloc (.cells kindsC 74) := by
  go_enter Tryz.func26, Tryz.ntmps26
  go_wp2
  refine bodyPost_ret (v := .agg kindsC) ?_ rfl ⟨rfl, rfl⟩
  simp only [results, show Tryz.f26.results = #[.cell 0 74] from rfl]
  go_simp
  rfl

/-- A kind's word, and which numbers it has. -/
def kWord (k : Nat) : Value := kindsC[3 * k]!
def kSlot (k : Nat) : Bool := k == 0
def kTimes (k : Nat) : Bool := k == 0 || k == 1

set_option maxHeartbeats 1000000 in
theorem turn_bad (k a b : Int) (w : World) (h : k < 0 ∨ 3 < k) :
    Calls Tryz.prog 20 #[.agg #[.int .i64 k, .int .i64 a, .int .i64 b]] w fun e w' => e = .returned (.bool false) ∧ Turn Nn w w' := by
  rcases h with h | h
  · go_enter Tryz.func20, Tryz.ntmps20
    go_wp2
    go_ret
    exact ⟨rfl, (Turn.refl _ _).alloc _⟩
  · by_cases h0 : k < 0
    · omega
    go_enter Tryz.func20, Tryz.ntmps20
    go_wp2
    go_ret
    exact ⟨rfl, (Turn.refl _ _).alloc _⟩

end Go.Proofs.YtjnllclpdllceaaGreatDoor
