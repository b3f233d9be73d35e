/- The document's table: Make. -/
import Derived.Test.YtjnekmdocbmofaaRf
namespace Go.Proofs.Ytjnekmdocbmofaa
set_option linter.unusedSimpArgs false
set_option linter.unusedVariables false
open Go.RowKit Go.Shelf

variable {w w' : World} {rb sb n m : Nat} {cs : List (Option Ch)} {cur cur' : Array Value} {vs : Nat → Bool → Value}

theorem RefTab.cellx (h : RefTab w rb sb n m cs cur vs) {i t : Nat} (hi : i < n) (ht : t < 5) : ∃ v, w.cell? ⟨sb, i * 5 + t, none⟩ = some v := by
  rw [cell_blk h.slots]
  exact ⟨_, Array.getElem?_eq_getElem (by rw [h.size]; omega)⟩

def set5 (cur : Array Value) (k : Nat) (a0 a1 a2 a3 a4 : Value) : Array Value :=
  ((((cur.setIfInBounds (k * 5) a0).setIfInBounds (k * 5 + 1) a1).setIfInBounds (k * 5 + 2) a2).setIfInBounds (k * 5 + 3) a3).setIfInBounds (k * 5 + 4) a4

theorem set5_size (cur : Array Value) (k : Nat) (a0 a1 a2 a3 a4 : Value) : (set5 cur k a0 a1 a2 a3 a4).size = cur.size := by simp [set5]

theorem set5_other (cur : Array Value) (k : Nat) (a0 a1 a2 a3 a4 : Value) (j t : Nat) (hj : j ≠ k) (ht : t < 5) : (set5 cur k a0 a1 a2 a3 a4)[j * 5 + t]? = cur[j * 5 + t]? := by
  unfold set5
  rw [Array.getElem?_setIfInBounds_ne (by omega), Array.getElem?_setIfInBounds_ne (by omega), Array.getElem?_setIfInBounds_ne (by omega), Array.getElem?_setIfInBounds_ne (by omega), Array.getElem?_setIfInBounds_ne (by omega)]

theorem set5_at (cur : Array Value) (k : Nat) (a0 a1 a2 a3 a4 : Value) (h : k * 5 + 4 < cur.size) :
    (set5 cur k a0 a1 a2 a3 a4)[k * 5]? = some a0 ∧ (set5 cur k a0 a1 a2 a3 a4)[k * 5 + 1]? = some a1 ∧ (set5 cur k a0 a1 a2 a3 a4)[k * 5 + 1 + 1]? = some a2 ∧ (set5 cur k a0 a1 a2 a3 a4)[k * 5 + 3]? = some a3 ∧ (set5 cur k a0 a1 a2 a3 a4)[k * 5 + 3 + 1]? = some a4 := by
  unfold set5
  refine ⟨?_, ?_, ?_, ?_, ?_⟩
  · rw [Array.getElem?_setIfInBounds_ne (by omega), Array.getElem?_setIfInBounds_ne (by omega), Array.getElem?_setIfInBounds_ne (by omega), Array.getElem?_setIfInBounds_ne (by omega), Array.getElem?_setIfInBounds_self_of_lt (by omega)]
  · rw [Array.getElem?_setIfInBounds_ne (by omega), Array.getElem?_setIfInBounds_ne (by omega), Array.getElem?_setIfInBounds_ne (by omega), Array.getElem?_setIfInBounds_self_of_lt (by simp; omega)]
  · rw [show k * 5 + 1 + 1 = k * 5 + 2 by omega, Array.getElem?_setIfInBounds_ne (by omega), Array.getElem?_setIfInBounds_ne (by omega), Array.getElem?_setIfInBounds_self_of_lt (by simp; omega)]
  · rw [Array.getElem?_setIfInBounds_ne (by omega), Array.getElem?_setIfInBounds_self_of_lt (by simp; omega)]
  · rw [show k * 5 + 3 + 1 = k * 5 + 4 by omega, Array.getElem?_setIfInBounds_self_of_lt (by simp; omega)]

def w5 (w : World) (sb k : Nat) (a0 a1 a2 a3 a4 : Value) : World :=
  ((((w.setCell ⟨sb, k * 5, none⟩ a0).setCell ⟨sb, k * 5 + 1, none⟩ a1).setCell ⟨sb, k * 5 + 2, none⟩ a2).setCell ⟨sb, k * 5 + 3, none⟩ a3).setCell ⟨sb, k * 5 + 4, none⟩ a4

theorem w5_blk {w : World} {sb : Nat} {cur : Array Value} {t : TypeId} (h : w.heap[sb]? = some (.cells cur t)) (k : Nat) (a0 a1 a2 a3 a4 : Value) : (w5 w sb k a0 a1 a2 a3 a4).heap[sb]? = some (.cells (set5 cur k a0 a1 a2 a3 a4) t) := by
  unfold w5 set5
  exact heap_setCell_at (heap_setCell_at (heap_setCell_at (heap_setCell_at (heap_setCell_at h _ _) _ _) _ _) _ _) _ _

theorem w5_turn (w : World) (sb k : Nat) (a0 a1 a2 a3 a4 : Value) : Turn (QIn sb) w (w5 w sb k a0 a1 a2 a3 a4) := by
  unfold w5
  exact (((((Turn.refl (QIn sb) w).setCell (p := ⟨sb, k * 5, none⟩) (.inl rfl) _).setCell (p := ⟨sb, k * 5 + 1, none⟩) (.inl rfl) _).setCell (p := ⟨sb, k * 5 + 2, none⟩) (.inl rfl) _).setCell (p := ⟨sb, k * 5 + 3, none⟩) (.inl rfl) _).setCell (p := ⟨sb, k * 5 + 4, none⟩) (.inl rfl) _

/-- A whole slot is laid anew: free, or a new channel. -/
theorem RefTab.lay (h : RefTab w rb sb n m cs cur vs) {k : Nat} (hk : k < n) (o : Option Ch) (ho : ∀ c, o = some c → c.o0 = true ∧ c.o1 = true ∧ c.l0 = [] ∧ c.l1 = []) :
    RefGoes w (w5 w sb k (.bool o.isSome) (.bool false) (.bool false) (.slice none 0 0) (.slice none 0 0)) rb sb n m cs (cs.set k o) vs := by
  have hat := set5_at cur k (.bool o.isSome) (.bool false) (.bool false) (.slice none 0 0) (.slice none 0 0) (by rw [h.size]; omega)
  have := h.fix (S := QIn sb) (w' := w5 w sb k (.bool o.isSome) (.bool false) (.bool false) (.slice none 0 0) (.slice none 0 0)) hk (o' := o) (u := fun _ => .slice none 0 0) (w5_blk h.slots k _ _ _ _ _) (set5_size _ _ _ _ _ _ _) (fun j t hj ht => set5_other _ _ _ _ _ _ _ j t hj ht) hat.1
    (fun c hc => by
      obtain ⟨e0, e1, e2, e3⟩ := ho c hc
      refine ⟨by rw [e0]; exact hat.2.1, by rw [e1]; exact hat.2.2.1, hat.2.2.2.1, hat.2.2.2.2, fun s => ?_⟩
      have e4 : c.l s = [] := by cases s; exact e2; exact e3
      rw [e4]; exact ⟨.inl ⟨rfl, rfl⟩, Nat.zero_le _⟩)
    (w5_turn _ _ _ _ _ _ _ _) (fun k hk => .inl hk) (fun g hg => by simp [blkOf] at hg) (fun s k hk => by simp [blkOf] at hk)
  exact ⟨⟨_, _, this.1, this.2⟩, (w5_turn _ _ _ _ _ _ _ _).mono (fun k hk => .inl hk)⟩

set_option maxRecDepth 100000 in
set_option maxHeartbeats 1000000 in
theorem refMake_any (h : RefTab w rb sb n m cs cur vs) (b : Nat) {i z : Int} {cs' : List (Option Ch)} (hz : makeT cs b = (i, z, cs')) :
    Calls Try.prog 28 #[.pointer (some ⟨rb, 0, none⟩)] w fun r w' => r = .returned (.tuple #[.int .i64 i, .int .i64 z]) ∧ RefGoes w w' rb sb n m cs cs' vs := by
  have h0 := h.c0
  have hn := h.len
  have h64 := h.n64
  have hc : ∀ i (hi : i < n), w.cell? ⟨sb, i * 5, none⟩ = some (.bool (cs[i]'(by omega)).isSome) := fun i hi => h.cu (List.getElem?_eq_getElem (by omega))
  have hf : ∀ t, w.frozen? ⟨sb, t, none⟩ = false := fun t => frozen_blk h.slots _
  have HC := Lib.hid hc
  have HT := Lib.hid h
  have HZ := Lib.hid hz
  clear hc h hz
  go_enter Try.func28, Try.ntmps28
  go_wp2_with fail
  go_loop [4] (fun i => ∃ k : Nat, k ≤ n ∧ i = .int .i64 k ∧ ∀ j < k, ∃ c, cs[j]? = some (some c)) (fun i => n - (intOf i).toNat)
  case atStart => exact ⟨0, Nat.zero_le _, rfl, fun j hj => absurd hj (Nat.not_lt_zero _)⟩
  case round =>
    obtain ⟨k, hk, rfl, hb⟩ := hrel
    have HB := Lib.hid hb
    clear hb
    by_cases hlt : k < n
    · have hk2 : (k : Int) < (n : Int) := by omega
      have hg := HC.out k hlt
      have hx : k < cs.length := by omega
      cases hck : cs[k]'hx with
      | none =>
        rw [hck] at hg
        have hg : w.cell? ⟨sb, k * 5, none⟩ = some (.bool false) := hg
        obtain ⟨y1, a1⟩ := HT.out.cellx hlt (t := 1) (by omega)
        obtain ⟨y2, a2⟩ := HT.out.cellx hlt (t := 2) (by omega)
        obtain ⟨y3, a3⟩ := HT.out.cellx hlt (t := 3) (by omega)
        obtain ⟨y4, a4⟩ := HT.out.cellx hlt (t := 4) (by omega)
        have hR := HT.out.lay hlt (some ⟨b, true, true, [], []⟩) (fun c hc => by cases hc; exact ⟨rfl, rfl, rfl, rfl⟩)
        have e : free cs = some k := free_some hx (by rw [List.getElem?_eq_getElem hx, hck]) HB.out
        have E : Hid (i = k ∧ z = 0 ∧ cs' = cs.set k (some ⟨b, true, true, [], []⟩)) := Lib.hid (by have hz := HZ.out; unfold makeT at hz; rw [e] at hz; simp at hz; exact ⟨hz.1.symm, hz.2.1.symm, hz.2.2.symm⟩)
        have HR := Lib.hid hR
        clear hck hR e
        go_wp2
        go_ret2
        exact ⟨by rw [E.out.1, E.out.2.1]; rfl, by rw [E.out.2.2]; exact HR.out⟩
      | some c =>
        rw [hck] at hg
        have hg : w.cell? ⟨sb, k * 5, none⟩ = some (.bool true) := hg
        have HB2 : Hid (∀ j < k + 1, ∃ c, cs[j]? = some (some c)) := Lib.hid fun j hj => by
          by_cases h : j < k
          · exact HB.out j h
          · obtain rfl : j = k := by omega
            exact ⟨c, by rw [List.getElem?_eq_getElem hx, hck]⟩
        clear hck
        go_wp2
        go_round
        case rel => exact ⟨k + 1, by omega, by go_num, HB2.out⟩
        case measure => simp [intOf]; omega
    · obtain rfl : k = n := by omega
      have e : free cs = none := free_none (by rw [hn]; exact HB.out)
      have E : Hid (i = -1 ∧ z = 22 ∧ cs' = cs) := Lib.hid (by have hz := HZ.out; unfold makeT at hz; rw [e] at hz; simp at hz; exact ⟨hz.1.symm, hz.2.1.symm, hz.2.2.symm⟩)
      clear e
      go_wp2
      go_ret2
      exact ⟨by rw [E.out.1, E.out.2.1]; rfl, by rw [E.out.2.2]; exact RefGoes.same HT.out (Turn.refl _ _)⟩
end Go.Proofs.Ytjnekmdocbmofaa
