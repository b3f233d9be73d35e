/- append, of words, with the blocks that it turns. -/
import Derived.Test.YtjnekmdocbmofaaRc
import Derived.Maps.AppendAt
namespace Go.Proofs.Ytjnekmdocbmofaa
set_option linter.unusedSimpArgs false
set_option linter.unusedVariables false
open Go.RowKit Go.Shelf

theorem Turn.grown {S : Nat → Prop} {w w' : World} {row : Option Nat} (h : w.grownBy w' row) (hs : ∀ k, row = some k → S k) : Turn S w w' :=
  ⟨h.os, h.tape, h.output, h.size, fun k hk hn => h.block k hk (fun e => hn (hs k e.symm))⟩

theorem run_append_none (w : World) (B : Nat) (ty : TypeId) (v : Value) (n : Nat) (xs : List Value) (hown : w.ownsRow B 2 1 v n xs) (c : Nat) : (Builtin.append_ #[35, 35] ty #[v, .slice none 0 c]).run Try.prog w = .ok v w := by
  obtain ⟨i0, hi, hz⟩ := Option.map_eq_some_iff.1 info2'
  rcases hown.2 with ⟨rfl, rfl⟩ | ⟨g, cap, cur, rfl, _, _, hnc, _⟩
  · simp [Builtin.append_, run_underlying under35, sizeOf, typeInfo, hi, Builtin.lenOf, Builtin.firstCells]
  · simp [Builtin.append_, run_underlying under35, sizeOf, typeInfo, hi, Builtin.lenOf, Builtin.firstCells, hnc, storeCells]

theorem append_words {W : World} {B : Nat} {v s : Value} {X L : List Int} (hown : W.ownsRow B 2 1 v X.length (X.map (Value.int .i64))) (hs : SlI W s L) (hn : X.length + L.length ≤ 100000) (hB : B ≤ W.heap.size) (ty : TypeId) :
    ∃ (v' : Value) (W' : World), (Builtin.append_ #[35, 35] ty #[v, s]).run Try.prog W = .ok v' W' ∧ W'.ownsRow B 2 1 v' (X ++ L).length ((X ++ L).map (Value.int .i64)) ∧ W.grownBy W' v.ownBlock ∧ (v'.ownBlock = v.ownBlock ∨ v'.ownBlock = some W.heap.size) := by
  obtain ⟨i0, hi, hz⟩ := Option.map_eq_some_iff.1 info2'
  simp only [Prod.mk.injEq] at hz
  obtain ⟨hz0, hz1, hz2⟩ := hz
  have key : ∀ (a : Addr) (m c : Nat) (L : List Int), m = L.length → X.length + L.length ≤ 100000 → (∀ j u, (L.map (Value.int .i64))[j]? = some u → W.cell? (a.add j) = some u) →
      ∃ (v' : Value) (W' : World), (Builtin.append_ #[35, 35] ty #[v, .slice (some a) m c]).run Try.prog W = .ok v' W' ∧ W'.ownsRow B 2 1 v' (X ++ L).length ((X ++ L).map (Value.int .i64)) ∧ W.grownBy W' v.ownBlock ∧ (v'.ownBlock = v.ownBlock ∨ v'.ownBlock = some W.heap.size) := by
    intro a m c L hm hn hc
    subst hm
    obtain ⟨v', W', h1, h2, h3, _, h4⟩ := run_append_own_at (P := Try.prog) W B 35 ty 2 i0 (.int .i64 0) 1 8 under35 hi hz0 hz1 hz2 rfl (by decide) v X.length _ hown a L.length c (L.map (Value.int .i64)) (by simp) hc
      (fun u hu => by obtain ⟨x, _, rfl⟩ := List.mem_map.1 hu; rfl) (by simp only [maxLen]; omega) (by omega) hB
    refine ⟨v', W', h1, ?_, h3, h4⟩
    rw [List.length_append, List.map_append]
    exact h2
  rcases hs with ⟨rfl, pa, c, rfl⟩ | ⟨b, o, c, rfl, hc, hcell⟩
  · cases pa with
    | none => exact ⟨v, W, run_append_none W B ty v _ _ hown c, by simpa using hown, World.grownBy.refl W _, .inl rfl⟩
    | some a => exact key a 0 c [] rfl (by simpa using hn) (fun j u hu => by simp at hu)
  · refine key ⟨b, o, none⟩ L.length c L rfl hn (fun j u hu => ?_)
    have hj : j < L.length := by
      have := (List.getElem?_eq_some_iff.1 hu).1
      simpa using this
    have hadd : (⟨b, o, none⟩ : Addr).add j = ⟨b, o + j, none⟩ := by unfold Addr.add; split <;> simp_all
    rw [hadd, hcell j hj, ← hu]
    simp [hj]

theorem SlI.own {W : World} {B : Nat} {v : Value} {X : List Int} (h : W.ownsRow B 2 1 v X.length (X.map (Value.int .i64))) : SlI W v X := by
  rcases h.2 with ⟨rfl, h0⟩ | ⟨g, cap, cur, rfl, _, hg, hn, _, hsz, ht⟩
  · exact .inl ⟨List.eq_nil_of_length_eq_zero h0, _, _, rfl⟩
  · refine .inr ⟨g, 0, cap, rfl, hn, fun i hi => ?_⟩
    rw [cell_blk hg, Nat.zero_add]
    have h9 := congrArg (fun l => l[i]?) ht
    simp only [List.getElem?_take, Nat.mul_one, hi, if_true] at h9
    rw [Array.getElem?_toList] at h9
    rw [h9]
    simp [hi]

/-- append of a word: the block that it turns is the slice's own, or new. -/
theorem append_run2 {W : World} {lo : Nat} {v : Value} {L : List Int} {B : Nat} {x : Int} (h : RefSl W lo v L) (hL : L.length ≤ 100000) (hlo : lo < W.heap.size) (hB : W.heap[B]? = some (.cells #[.int .i64 x] 2)) (ty : TypeId) :
    ∃ (v' : Value) (W' : World), (Builtin.append_ #[35, 35] ty #[v, .slice (some ⟨B, 0, none⟩) 1 1]).run Try.prog W = .ok v' W' ∧
      RefSl W' lo v' (L ++ [x]) ∧ Turn (fun k => blkOf v = some k) W W' ∧ (blkOf v' = blkOf v ∨ ∃ k, blkOf v' = some k ∧ W.heap.size ≤ k) := by
  obtain ⟨i0, hi, hz⟩ := Option.map_eq_some_iff.1 info2'
  simp only [Prod.mk.injEq] at hz
  obtain ⟨hz0, hz1, hz2⟩ := hz
  have hnews : ∀ j u, [Value.int .i64 x][j]? = some u → W.cell? ((⟨B, 0, none⟩ : Addr).add j) = some u := fun j u hu => by
    have hj : j = 0 := by
      have := (List.getElem?_eq_some_iff.1 hu).1
      simpa using this
    subst hj
    have : (⟨B, 0, none⟩ : Addr).add 0 = ⟨B, 0, none⟩ := by unfold Addr.add; simp
    rw [this, cell_blk hB]
    simpa using hu
  have h1c : ∀ u ∈ [Value.int .i64 x], u.oneCell' = true := fun u hu => by
    have : u = .int .i64 x := by simpa using hu
    subst this; rfl
  rcases h with ⟨rfl, rfl⟩ | ⟨g, o, cap, cur, hg, rfl, hcur, hfit, hcap, hc⟩
  · obtain ⟨v', W', hr, hown, hgrow, _⟩ := run_append_own (P := Try.prog) W W.heap.size 35 ty 2 i0 (.int .i64 0) 1 8 under35 hi hz0 hz1 hz2 rfl (by decide) (.slice none 0 0) 0 [] (World.ownsRow_nil W _ 2 1) ⟨B, 0, none⟩ 1 1 [.int .i64 x] rfl hnews h1c (by decide) (by decide) (Nat.le_refl _)
    rcases hown.2 with ⟨_, h0⟩ | ⟨g, cap, cur, rfl, hb, hgg, hn, _, hsz, htk⟩
    · cases h0
    · refine ⟨_, W', hr, .inr ⟨g, 0, cap, cur, by omega, rfl, hgg, by omega, hn, fun i hi' => ?_⟩, ⟨hgrow.os, hgrow.tape, hgrow.output, hgrow.size, fun k hk _ => hgrow.block k hk (by simp [Value.ownBlock])⟩, .inr ⟨g, rfl, hb⟩⟩
      have hi0 : i = 0 := by simp at hi'; omega
      subst hi0
      have := congrArg (fun l => l[0]?) htk
      simpa [List.getElem?_take] using this
  · by_cases hr : L.length + 1 ≤ cap
    · have hrun := run_append_room_cells (P := Try.prog) W 35 ty 2 i0 under35 hi g o L.length cap ⟨B, 0, none⟩ 1 1 [.int .i64 x] (by rw [hz1]; rfl) hnews h1c hr
        (fun j hj => by
          have hj0 : j = 0 := by simpa using hj
          subst hj0
          rw [hz1, cell_blk hcur, Nat.mul_one, Nat.add_zero, Array.getElem?_eq_getElem (by omega)]; rfl)
        (fun j hj => frozen_blk hcur _)
      rw [hz1, Nat.mul_one] at hrun
      have hblk := heap_setCell_at hcur (o + L.length) (.int .i64 x)
      refine ⟨_, _, hrun, .inr ⟨g, o, cap, cur.setIfInBounds (o + L.length) (.int .i64 x), hg, by simp, hblk, by simpa using hfit, by simpa using hr, fun i hi' => ?_⟩, (Turn.refl (fun k => blkOf (.slice (some ⟨g, o, none⟩) L.length cap) = some k) W).setCell (p := ⟨g, o + L.length, none⟩) (.inl rfl) _, .inl rfl⟩
      have hi2 : i < L.length + 1 := by simpa using hi'
      by_cases he : i = L.length
      · subst he
        rw [Array.getElem?_setIfInBounds_self_of_lt (by omega)]; simp
      · rw [Array.getElem?_setIfInBounds_ne (by omega), hc i (by omega), List.getElem?_append_left (by omega)]
    · have holds : ∀ j u, (L.map (Value.int .i64))[j]? = some u → W.cell? ((⟨g, o, none⟩ : Addr).add j) = some u := fun j u hj => by
        have hjl : j < L.length := by
          have := (List.getElem?_eq_some_iff.1 hj).1
          simpa using this
        have hadd : (⟨g, o, none⟩ : Addr).add j = ⟨g, o + j, none⟩ := by unfold Addr.add; split <;> simp_all
        rw [hadd, cell_blk hcur, hc j hjl, ← hj]
        simp [hjl]
      obtain ⟨v', W', hrun, hown, hgrow⟩ := run_append_arg_grows (P := Try.prog) W 35 ty 2 i0 (.int .i64 0) 1 8 under35 hi hz0 hz1 hz2 rfl (by decide) ⟨g, o, none⟩ L.length cap (L.map (Value.int .i64)) (by simp) holds ⟨B, 0, none⟩ 1 1 [.int .i64 x] rfl hnews (by omega) (by simp only [maxLen]; omega) (by omega)
      rcases hown.2 with ⟨_, h0⟩ | ⟨g', cap', cur', rfl, hb, hgg, hn, _, hsz, htk⟩
      · cases h0
      · refine ⟨_, W', hrun, .inr ⟨g', 0, cap', cur', by omega, by simp, hgg, by omega, by simpa using hn, fun i hi' => ?_⟩, ⟨hgrow.os, hgrow.tape, hgrow.output, hgrow.size, fun k hk _ => hgrow.block k hk (by simp)⟩, .inr ⟨g', rfl, hb⟩⟩
        have hi2 : i < L.length + 1 := by simpa using hi'
        have h9 := congrArg (fun l => l[i]?) htk
        simp only [List.getElem?_take, Nat.mul_one, hi2, if_true] at h9
        rw [Nat.zero_add]
        rw [Array.getElem?_toList] at h9
        rw [h9]
        by_cases he : i < L.length
        · rw [List.getElem?_append_left (by simpa using he), List.getElem?_append_left he]; simp [he]
        · have : i = L.length := by omega
          subst this
          simp
end Go.Proofs.Ytjnekmdocbmofaa
