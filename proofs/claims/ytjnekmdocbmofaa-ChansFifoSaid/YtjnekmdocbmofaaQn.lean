/- The document's queue: a list behind a pointer: its contracts. -/
import Derived.Test.YtjnekmdocbmofaaQl
import Derived.ArgAppend
namespace Go.Proofs.Ytjnekmdocbmofaa
set_option linter.unusedSimpArgs false
set_option linter.unusedVariables false
open Go.RowKit Go.Shelf

/-- The words of a slice in a block beyond rb, or nil. -/
def RefSl (w : World) (rb : Nat) (v : Value) (L : List Int) : Prop :=
  (L = [] ∧ v = .slice none 0 0) ∨ (∃ (g o cap : Nat) (cur : Array Value), rb < g ∧ v = .slice (some ⟨g, o, none⟩) L.length cap ∧ w.heap[g]? = some (.cells cur 2) ∧ o + cap ≤ cur.size ∧ L.length ≤ cap ∧ ∀ i, i < L.length → cur[o + i]? = some (.int .i64 (L[i]?.getD 0)))

def RefQ (w : World) (rb : Nat) (L : List Int) (m : Nat) : Prop := L.length ≤ m ∧ m ≤ 16 ∧ ∃ v, w.heap[rb]? = some (.cells #[v, .int .i64 m] 37) ∧ RefSl w rb v L

def Rb (rb : Nat) (k : Nat) : Prop := rb ≤ k

theorem RefSl.turn {S : Nat → Prop} {w w' rb v L} (h : RefSl w rb v L) (t : Turn S w w') (hs : ∀ k, S k → k ≤ rb) : RefSl w' rb v L := by
  rcases h with h | ⟨g, o, cap, cur, h1, h2, h3, h4⟩
  · exact .inl h
  · exact .inr ⟨g, o, cap, cur, h1, h2, (t.block g (Array.getElem?_eq_some_iff.1 h3).1 (fun h => by have := hs g h; omega)).trans h3, h4⟩

theorem RefQ.lt {w rb L m} (h : RefQ w rb L m) : rb < w.heap.size := by
  obtain ⟨_, _, v, h1, _⟩ := h
  exact (Array.getElem?_eq_some_iff.1 h1).1

theorem RefQ.turn {S : Nat → Prop} {w w' rb L m} (h : RefQ w rb L m) (t : Turn S w w') (hs : ∀ k, S k → k < rb) : RefQ w' rb L m := by
  have hl := h.lt
  obtain ⟨h0, h01, v, h1, h2⟩ := h
  exact ⟨h0, h01, v, (t.block rb hl (fun h => by have := hs rb h; omega)).trans h1, h2.turn t (fun k hk => Nat.le_of_lt (hs k hk))⟩

theorem RefQ.drewN {w rb L m} (h : RefQ w rb L m) (k : Nat) : RefQ (w.drewN k) rb L m := h.turn ((Turn.refl Nn _).drewN k) (fun _ h => h.elim)

theorem RefSl.shape {w rb v L} (h : RefSl w rb v L) : ∃ pa cap, v = .slice pa L.length cap := by
  rcases h with ⟨rfl, rfl⟩ | ⟨g, o, cap, cur, _, rfl, _⟩ <;> exact ⟨_, _, rfl⟩

/-- append: a word more, in the same block or a new one. -/
theorem append_run {W : World} {rb : Nat} {v : Value} {L : List Int} {B : Nat} {x : Int} (h : RefSl W rb v L) (hL : L.length ≤ 100) (hrb : rb < W.heap.size) (hB : W.heap[B]? = some (.cells #[.int .i64 x] 2)) (ty : TypeId) :
    ∃ (g o cap : Nat) (W' : World), (Builtin.append_ #[35, 35] ty #[v, .slice (some ⟨B, 0, none⟩) 1 1]).run Try.prog W = .ok (.slice (some ⟨g, o, none⟩) (L.length + 1) cap) W' ∧
      RefSl W' rb (.slice (some ⟨g, o, none⟩) (L.length + 1) cap) (L ++ [x]) ∧ Turn (fun k => rb < k) W W' := by
  obtain ⟨i0, hi, hz⟩ := Option.map_eq_some_iff.1 info2'
  simp only [Prod.mk.injEq] at hz
  obtain ⟨hz0, hz1, hz2⟩ := hz
  have hnews : ∀ j u, [Value.int .i64 x][j]? = some u → W.cell? ((⟨B, 0, none⟩ : Addr).add j) = some u := fun j u hu => by
    have hj : j = 0 := by
      have := (List.getElem?_eq_some_iff.1 hu).1
      simpa using this
    subst hj
    have : (⟨B, 0, none⟩ : Addr).add 0 = ⟨B, 0, none⟩ := by unfold Addr.add; simp
    rw [this, cell_blk hB]
    simpa using hu
  have h1c : ∀ u ∈ [Value.int .i64 x], u.oneCell' = true := fun u hu => by
    have : u = .int .i64 x := by simpa using hu
    subst this; rfl
  rcases h with ⟨rfl, rfl⟩ | ⟨g, o, cap, cur, hg, rfl, hcur, hfit, hcap, hc⟩
  · obtain ⟨v', W', hr, hown, hgrow, _⟩ := run_append_own (P := Try.prog) W W.heap.size 35 ty 2 i0 (.int .i64 0) 1 8 under35 hi hz0 hz1 hz2 rfl (by decide) (.slice none 0 0) 0 [] (World.ownsRow_nil W _ 2 1) ⟨B, 0, none⟩ 1 1 [.int .i64 x] rfl hnews h1c (by decide) (by decide) (Nat.le_refl _)
    rcases hown.2 with ⟨_, h0⟩ | ⟨g, cap, cur, rfl, hb, hgg, hn, _, hsz, htk⟩
    · cases h0
    · refine ⟨g, 0, cap, W', hr, .inr ⟨g, 0, cap, cur, by omega, rfl, hgg, by omega, hn, fun i hi' => ?_⟩, ⟨hgrow.os, hgrow.tape, hgrow.output, hgrow.size, fun k hk _ => hgrow.block k hk (by simp [Value.ownBlock])⟩⟩
      have hi0 : i = 0 := by simp at hi'; omega
      subst hi0
      have := congrArg (fun l => l[0]?) htk
      simpa [List.getElem?_take] using this
  · by_cases hr : L.length + 1 ≤ cap
    · have hrun := run_append_room_cells (P := Try.prog) W 35 ty 2 i0 under35 hi g o L.length cap ⟨B, 0, none⟩ 1 1 [.int .i64 x] (by rw [hz1]; rfl) hnews h1c hr
        (fun j hj => by
          have hj0 : j = 0 := by simpa using hj
          subst hj0
          rw [hz1, cell_blk hcur, Nat.mul_one, Nat.add_zero, Array.getElem?_eq_getElem (by omega)]; rfl)
        (fun j hj => frozen_blk hcur _)
      rw [hz1, Nat.mul_one] at hrun
      have hblk := heap_setCell_at hcur (o + L.length) (.int .i64 x)
      refine ⟨g, o, cap, _, hrun, .inr ⟨g, o, cap, cur.setIfInBounds (o + L.length) (.int .i64 x), hg, by simp, hblk, by simpa using hfit, by simpa using hr, fun i hi' => ?_⟩, (Turn.refl (fun k => rb < k) W).setCell (p := ⟨g, o + L.length, none⟩) (.inl hg) _⟩
      have hi2 : i < L.length + 1 := by simpa using hi'
      by_cases he : i = L.length
      · subst he
        rw [Array.getElem?_setIfInBounds_self_of_lt (by omega)]; simp
      · rw [Array.getElem?_setIfInBounds_ne (by omega), hc i (by omega), List.getElem?_append_left (by omega)]
    · have holds : ∀ j u, (L.map (Value.int .i64))[j]? = some u → W.cell? ((⟨g, o, none⟩ : Addr).add j) = some u := fun j u hj => by
        have hjl : j < L.length := by
          have := (List.getElem?_eq_some_iff.1 hj).1
          simpa using this
        have hadd : (⟨g, o, none⟩ : Addr).add j = ⟨g, o + j, none⟩ := by unfold Addr.add; split <;> simp_all
        rw [hadd, cell_blk hcur, hc j hjl, ← hj]
        simp [hjl]
      obtain ⟨v', W', hrun, hown, hgrow⟩ := run_append_arg_grows (P := Try.prog) W 35 ty 2 i0 (.int .i64 0) 1 8 under35 hi hz0 hz1 hz2 rfl (by decide) ⟨g, o, none⟩ L.length cap (L.map (Value.int .i64)) (by simp) holds ⟨B, 0, none⟩ 1 1 [.int .i64 x] rfl hnews (by omega) (by simp only [maxLen]; omega) (by omega)
      rcases hown.2 with ⟨_, h0⟩ | ⟨g', cap', cur', rfl, hb, hgg, hn, _, hsz, htk⟩
      · cases h0
      · refine ⟨g', 0, cap', W', hrun, .inr ⟨g', 0, cap', cur', by omega, by simp, hgg, by omega, by simpa using hn, fun i hi' => ?_⟩, ⟨hgrow.os, hgrow.tape, hgrow.output, hgrow.size, fun k hk _ => hgrow.block k hk (by simp)⟩⟩
        have hi2 : i < L.length + 1 := by simpa using hi'
        have h9 := congrArg (fun l => l[i]?) htk
        simp only [List.getElem?_take, Nat.mul_one, hi2, if_true] at h9
        rw [Nat.zero_add]
        rw [Array.getElem?_toList] at h9
        rw [h9]
        by_cases he : i < L.length
        · rw [List.getElem?_append_left (by simpa using he), List.getElem?_append_left he]; simp [he]
        · have : i = L.length := by omega
          subst this
          simp
end Go.Proofs.Ytjnekmdocbmofaa
