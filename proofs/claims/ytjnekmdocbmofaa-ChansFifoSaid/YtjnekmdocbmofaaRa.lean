/- The document's table of channels: what stands in memory; there, Open. -/
import Derived.Test.YtjnekmdocbmofaaCn
import Derived.Test.YtjnekmdocbmofaaQo
namespace Go.Proofs.Ytjnekmdocbmofaa
set_option linter.unusedSimpArgs false
set_option linter.unusedVariables false
open Go.RowKit Go.Shelf

/-- The block of a slice. -/
def blkOf : Value → Option Nat
  | .slice (some a) _ _ => some a.block
  | _ => none

/-- The words of a slice in a block beyond lo, or nil. -/
def RSl (w : World) (lo : Nat) (v : Value) (L : List Int) : Prop := RefSl w lo v L

/-- The document's table at rb, its slots at sb; what it says is cs. -/
structure RefTab (w : World) (rb sb n m : Nat) (cs : List (Option Ch)) (cur : Array Value) (vs : Nat → Bool → Value) : Prop where
  tab : w.heap[rb]? = some (.cells #[.slice (some ⟨sb, 0, none⟩) n n, .int .i64 m] 89)
  slots : w.heap[sb]? = some (.cells cur 92)
  size : cur.size = n * 5
  len : cs.length = n
  n64 : n ≤ 64
  m1 : 1 ≤ m
  m16 : m ≤ 16
  sr : sb < rb
  used : ∀ i o, cs[i]? = some o → cur[i * 5]? = some (.bool o.isSome)
  ch : ∀ i c, cs[i]? = some (some c) → cur[i * 5 + 1]? = some (.bool (!c.o0)) ∧ cur[i * 5 + 1 + 1]? = some (.bool (!c.o1)) ∧ cur[i * 5 + 3]? = some (vs i false) ∧ cur[i * 5 + 3 + 1]? = some (vs i true) ∧ ∀ s, RefSl w rb (vs i s) (c.l s) ∧ (c.l s).length ≤ m
  apart : ∀ i s j r c d g, cs[i]? = some (some c) → cs[j]? = some (some d) → (i ≠ j ∨ s ≠ r) → blkOf (vs i s) = some g → blkOf (vs j r) ≠ some g

variable {w : World} {rb sb n m : Nat} {cs : List (Option Ch)} {cur : Array Value} {vs : Nat → Bool → Value}

theorem RefTab.c0 (h : RefTab w rb sb n m cs cur vs) : w.cell? ⟨rb, 0, none⟩ = some (.slice (some ⟨sb, 0, none⟩) n n) := by rw [cell_blk h.tab]; rfl
theorem RefTab.c1 (h : RefTab w rb sb n m cs cur vs) : w.cell? ⟨rb, 1, none⟩ = some (.int .i64 m) := by rw [cell_blk h.tab]; rfl
theorem RefTab.cu (h : RefTab w rb sb n m cs cur vs) {i o} (hi : cs[i]? = some o) : w.cell? ⟨sb, i * 5, none⟩ = some (.bool o.isSome) := by rw [cell_blk h.slots]; exact h.used i o hi

set_option maxRecDepth 100000 in
set_option maxHeartbeats 1000000 in
theorem there_any (h : RefTab w rb sb n m cs cur vs) (e : Int) :
    Calls Try.prog 60 #[.pointer (some ⟨rb, 0, none⟩), .int .i64 e] w fun r w' => r = .returned (.bool (sideOf cs e).isSome) ∧ w = w' := by
  have h0 := h.c0
  have hn := h.n64
  have hlen := h.len
  have hwr : IntKind.i64.wrap (2 * (n : Int)) = 2 * n := by rw [IntKind.wrap_i64]; omega
  by_cases he : e < 0
  · have HS : Hid ((sideOf cs e).isSome = false) := Lib.hid (by unfold sideOf; rw [if_neg (by omega)]; rfl)
    rw [HS.out]
    clear h hlen
    go_enter Try.func60, Try.ntmps60
    go_wp2_with fail
    go_ret
    exact ⟨rfl, rfl⟩
  by_cases he2 : 2 * (n : Int) ≤ e
  · have HS : Hid ((sideOf cs e).isSome = false) := Lib.hid (by unfold sideOf; rw [if_neg (by omega)]; rfl)
    rw [HS.out]
    have he3 : 0 ≤ e := by omega
    clear h hlen
    go_enter Try.func60, Try.ntmps60
    go_wp2_with fail
    go_ret
    exact ⟨rfl, rfl⟩
  obtain ⟨i, hi⟩ : ∃ i : Nat, e / 2 = i := ⟨(e / 2).toNat, by omega⟩
  have hin : i < n := by omega
  have hu := h.cu (i := i) (o := cs[i]) (List.getElem?_eq_getElem (by omega))
  have HS : Hid ((sideOf cs e).isSome = (cs[i]).isSome) := Lib.hid (by
    unfold sideOf
    rw [if_pos (by omega), show (e / 2).toNat = i by omega, List.getElem?_eq_getElem (by omega)]
    cases cs[i] <;> rfl)
  rw [HS.out]
  obtain ⟨b, hb⟩ : ∃ b, (cs[i]).isSome = b := ⟨_, rfl⟩
  rw [hb] at hu ⊢
  have hdv : IntKind.i64.wrap (e.tdiv 2) = i := by rw [Int.tdiv_eq_ediv_of_nonneg (by omega), IntKind.wrap_i64]; omega
  have he3 : 0 ≤ e := by omega
  have he4 : e < 2 * (n : Int) := by omega
  have hi2 : (i : Int) < (n : Int) := by omega
  have HI := Lib.hid hi
  clear HS h hlen hb hi
  go_enter Try.func60, Try.ntmps60
  go_wp2_with fail
  go_ret
  exact ⟨rfl, rfl⟩
end Go.Proofs.Ytjnekmdocbmofaa
