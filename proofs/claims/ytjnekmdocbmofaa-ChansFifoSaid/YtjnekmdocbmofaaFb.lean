/- The theorem of channels: what its walk holds. -/
import Derived.Test.YtjnekmdocbmofaaFa
namespace Go.Proofs.Ytjnekmdocbmofaa
set_option linter.unusedSimpArgs false
set_option linter.unusedVariables false
open Go.RowKit Go.Shelf

/-- Where the q-th of the sixteen lists stands. -/
def aB (pb q : Nat) : Nat := if q < 8 then pb else pb + 1
def aO (q : Nat) : Nat := if q < 8 then q else q - 8

/-- The table; the lists put (0 to 7) at pb, taken (8 to 15) at pb + 1; all apart. -/
structure FifoB (B : Nat) (w0 w : World) (tb sb pb n m : Nat) (cs : List (Option Ch)) (vals : Nat → Value) (L : Nat → List Int) (K : Nat) : Prop where
  tab : TabIs w tb sb n m cs
  put : ∃ pv, w.heap[pb]? = some (.cells pv 62) ∧ pv.size = 8 ∧ ∀ q, q < 8 → pv[q]? = some (vals q)
  tak : ∃ pv, w.heap[pb + 1]? = some (.cells pv 62) ∧ pv.size = 8 ∧ ∀ q, q < 8 → pv[q]? = some (vals (8 + q))
  sl : ∀ q, q < 16 → RefSl w (pb + 1) (vals q) (L q) ∧ (L q).length ≤ K
  apart : ∀ q r g, q < 16 → r < 16 → q ≠ r → blkOf (vals q) = some g → blkOf (vals r) ≠ some g
  offT : ∀ k, TOwn sb cs k → k ≠ pb ∧ k ≠ pb + 1 ∧ ∀ q, q < 16 → blkOf (vals q) ≠ some k
  tp : tb < pb
  bs : B ≤ sb
  bw : B = w0.heap.size
  below : Below B w0 w

variable {B : Nat} {w0 w w' : World} {tb sb pb n m K : Nat} {cs cs' : List (Option Ch)} {vals : Nat → Value} {L : Nat → List Int}

theorem FifoB.mono (h : FifoB B w0 w tb sb pb n m cs vals L K) {K' : Nat} (hk : K ≤ K') : FifoB B w0 w tb sb pb n m cs vals L K' :=
  ⟨h.tab, h.put, h.tak, fun q hq => ⟨(h.sl q hq).1, Nat.le_trans (h.sl q hq).2 hk⟩, h.apart, h.offT, h.tp, h.bs, h.bw, h.below⟩

theorem FifoB.cell (h : FifoB B w0 w tb sb pb n m cs vals L K) {q : Nat} (hq : q < 16) : w.cell? ⟨aB pb q, aO q, none⟩ = some (vals q) := by
  obtain ⟨pv, h1, _, h2⟩ := h.put
  obtain ⟨kv, h3, _, h4⟩ := h.tak
  unfold aB aO
  by_cases hq8 : q < 8
  · simp only [hq8, if_true]; rw [cell_blk h1]; exact h2 q hq8
  · simp only [hq8, if_false]; rw [cell_blk h3]; have := h4 (q - 8) (by omega); rw [show 8 + (q - 8) = q by omega] at this; exact this
theorem FifoB.cellP (h : FifoB B w0 w tb sb pb n m cs vals L K) {q : Nat} (hq : q < 8) : w.cell? ⟨pb, q, none⟩ = some (vals q) := by
  have := h.cell (q := q) (by omega); simpa [aB, aO, hq] using this
theorem FifoB.cellT (h : FifoB B w0 w tb sb pb n m cs vals L K) {q : Nat} (hq : q < 8) : w.cell? ⟨pb + 1, q, none⟩ = some (vals (8 + q)) := by
  have := h.cell (q := 8 + q) (by omega); simpa [aB, aO, show ¬ 8 + q < 8 by omega] using this
theorem FifoB.fzP (h : FifoB B w0 w tb sb pb n m cs vals L K) (q : Nat) : w.frozen? ⟨pb, q, none⟩ = false := by
  obtain ⟨pv, h1, _⟩ := h.put; exact frozen_blk h1 _
theorem FifoB.fzT (h : FifoB B w0 w tb sb pb n m cs vals L K) (q : Nat) : w.frozen? ⟨pb + 1, q, none⟩ = false := by
  obtain ⟨pv, h1, _⟩ := h.tak; exact frozen_blk h1 _

theorem FifoB.turn {S : Nat → Prop} (h : FifoB B w0 w tb sb pb n m cs vals L K) (h' : TabIs w' tb sb n m cs') (t : Turn S w w') (hp : ¬ S pb) (hk : ¬ S (pb + 1)) (hb : ∀ q k, q < 16 → blkOf (vals q) = some k → ¬ S k)
    (ho : ∀ k, TOwn sb cs' k → TOwn sb cs k ∨ w.heap.size ≤ k) (hbel : Below B w0 w') : FifoB B w0 w' tb sb pb n m cs' vals L K := by
  obtain ⟨pv, h1, h1s, h2⟩ := h.put
  obtain ⟨kv, h3, h3s, h4⟩ := h.tak
  refine ⟨h', ⟨pv, (t.block _ (heap_lt h1) hp).trans h1, h1s, h2⟩, ⟨kv, (t.block _ (heap_lt h3) hk).trans h3, h3s, h4⟩, fun q hq => ⟨(h.sl q hq).1.turnB t (fun k hk => hb q k hq hk), (h.sl q hq).2⟩, h.apart, fun k hk => ?_, h.tp, h.bs, h.bw, hbel⟩
  rcases ho k hk with hk | hk
  · exact h.offT k hk
  · have g1 := heap_lt h1
    have g2 := heap_lt h3
    exact ⟨by omega, by omega, fun q hq hb => by have := ((h.sl q hq).1.blt hb).1; omega⟩

theorem FifoB.idle (h : FifoB B w0 w tb sb pb n m cs vals L K) (t : Turn Nn w w') : FifoB B w0 w' tb sb pb n m cs vals L K :=
  h.turn (h.tab.turn' t) t (fun h => h) (fun h => h) (fun _ _ _ _ h => h) (fun k hk => .inl hk) (below_turn_n h.below t (by have := h.bw; omega))

theorem FifoB.goT (h : FifoB B w0 w tb sb pb n m cs vals L K) (h' : TabIs w' tb sb n m cs') (t : Turn (TOwn sb cs) w w') (ho : ∀ k, TOwn sb cs' k → TOwn sb cs k ∨ w.heap.size ≤ k) : FifoB B w0 w' tb sb pb n m cs' vals L K :=
  h.turn h' t (fun hk => (h.offT _ hk).1 rfl) (fun hk => (h.offT _ hk).2.1 rfl) (fun q k hq hb hk => (h.offT k hk).2.2 q hq hb) ho (below_turn_t h.below h.tab t h.bs)

/-- One of the lists is turned. -/
theorem FifoB.setv (h : FifoB B w0 w tb sb pb n m cs vals L K) {q : Nat} (hq : q < 16) {w1 : World} {v' : Value} {L' : List Int} {K' : Nat} (hK : K ≤ K') (t : Turn (fun k => blkOf (vals q) = some k) w w1) (hv : RefSl w1 (pb + 1) v' L') (hL : L'.length ≤ K')
    (hb : ∀ k, blkOf v' = some k → blkOf (vals q) = some k ∨ w.heap.size ≤ k) :
    FifoB B w0 (w1.setCell ⟨aB pb q, aO q, none⟩ v') tb sb pb n m cs (fun r => if r = q then v' else vals r) (fun r => if r = q then L' else L r) K' := by
  obtain ⟨pv, h1, h1s, h2⟩ := h.put
  obtain ⟨kv, h3, h3s, h4⟩ := h.tak
  have g1 := heap_lt h1
  have g2 := heap_lt h3
  have htp := h.tp
  have hblt : ∀ r k, r < 16 → blkOf (vals r) = some k → k < w.heap.size ∧ pb + 1 < k := fun r k hr hk => (h.sl r hr).1.blt hk
  have hnp : ¬ blkOf (vals q) = some pb := fun hk => by have := (hblt q pb hq hk).2; omega
  have hnk : ¬ blkOf (vals q) = some (pb + 1) := fun hk => by have := (hblt q (pb + 1) hq hk).2; omega
  have e1 : w1.heap[pb]? = some (.cells pv 62) := (t.block _ g1 hnp).trans h1
  have e3 : w1.heap[pb + 1]? = some (.cells kv 62) := (t.block _ g2 hnk).trans h3
  have haB : aB pb q = pb ∨ aB pb q = pb + 1 := by unfold aB; split <;> simp
  have tq : Turn (QIn (aB pb q)) w1 (w1.setCell ⟨aB pb q, aO q, none⟩ v') := (Turn.refl (QIn (aB pb q)) w1).setCell (p := ⟨aB pb q, aO q, none⟩) (.inl rfl) _
  have tt : Turn (fun k => k = aB pb q ∨ blkOf (vals q) = some k) w (w1.setCell ⟨aB pb q, aO q, none⟩ v') := (t.mono (fun k hk => .inr hk)).trans (tq.mono (fun k hk => .inl hk))
  have hBk : ∀ k, (k = aB pb q ∨ blkOf (vals q) = some k) → B ≤ k := fun k hk => by
    have := h.bs
    have := h.tab.ts
    rcases hk with hk | hk
    · rcases haB with e | e <;> omega
    · have := (hblt q k hq hk).2; omega
  refine ⟨h.tab.turnS tt (fun k hk => ?_), ?_, ?_, fun r hr => ?_, fun r s g hr hs hrs hg => ?_, fun k hk => ?_, h.tp, h.bs, h.bw, Turn.below h.below tt hBk (by have := h.below.size; have := h.bw; omega)⟩
  · rcases hk with hk | hk
    · refine ⟨fun ho => ?_, ?_⟩
      · have := h.offT k ho; rcases haB with e | e <;> omega
      · rcases haB with e | e <;> omega
    · exact ⟨fun ho => (h.offT k ho).2.2 q hq hk, by have := (hblt q k hq hk).2; omega⟩
  · by_cases hq8 : q < 8
    · simp only [aB, aO, hq8, if_true]
      refine ⟨_, heap_setCell_at e1 q v', by simpa using h1s, fun r hr => ?_⟩
      by_cases e : r = q
      · subst e; simp only [if_true]; exact Array.getElem?_setIfInBounds_self_of_lt (by omega)
      · simp only [e, if_false]; rw [Array.getElem?_setIfInBounds_ne (by omega)]; exact h2 r hr
    · simp only [aB, aO, hq8, if_false]
      refine ⟨pv, (Below.heap_setCell _ _ _ _ (by show pb ≠ pb + 1; omega)).trans e1, h1s, fun r hr => ?_⟩
      have e : ¬ r = q := by omega
      simp only [e, if_false]; exact h2 r hr
  · by_cases hq8 : q < 8
    · simp only [aB, aO, hq8, if_true]
      refine ⟨kv, (Below.heap_setCell _ _ _ _ (by show pb + 1 ≠ pb; omega)).trans e3, h3s, fun r hr => ?_⟩
      have e : ¬ 8 + r = q := by omega
      simp only [e, if_false]; exact h4 r hr
    · simp only [aB, aO, hq8, if_false]
      refine ⟨_, heap_setCell_at e3 (q - 8) v', by simpa using h3s, fun r hr => ?_⟩
      by_cases e : 8 + r = q
      · simp only [e, if_true]
        rw [show q - 8 = r by omega]
        exact Array.getElem?_setIfInBounds_self_of_lt (by omega)
      · simp only [e, if_false]; rw [Array.getElem?_setIfInBounds_ne (by omega)]; exact h4 r hr
  · by_cases e : r = q
    · simp only [e, if_true]
      exact ⟨hv.turnB tq (fun k hk hS => by have := (hv.blt hk).2; have hS : k = aB pb q := hS; rcases haB with e | e <;> omega), hL⟩
    · simp only [e, if_false]
      refine ⟨(h.sl r hr).1.turnB tt (fun k hk hS => ?_), Nat.le_trans (h.sl r hr).2 hK⟩
      rcases hS with hS | hS
      · have := (hblt r k hr hk).2; rcases haB with e | e <;> omega
      · exact h.apart r q k hr hq e hk hS
  · by_cases e : r = q
    · simp only [e, if_true] at hg
      have e2 : ¬ s = q := fun h => hrs (e.trans h.symm)
      simp only [e2, if_false]
      rcases hb g hg with h5 | h5
      · exact h.apart q s g hq hs (Ne.symm e2) h5
      · exact fun h6 => by have := (hblt s g hs h6).1; omega
    · simp only [e, if_false] at hg
      by_cases e2 : s = q
      · simp only [e2, if_true]
        intro h6
        rcases hb g h6 with h5 | h5
        · exact h.apart r q g hr hq e hg h5
        · have := (hblt r g hr hg).1; omega
      · simp only [e2, if_false]
        exact h.apart r s g hr hs hrs hg
  · obtain ⟨o1, o2, o3⟩ := h.offT k hk
    refine ⟨o1, o2, fun r hr => ?_⟩
    by_cases e : r = q
    · simp only [e, if_true]
      intro h6
      rcases hb k h6 with h5 | h5
      · exact o3 q hq h5
      · have := h.tab.own_lt hk; omega
    · simp only [e, if_false]; exact o3 r hr

/-- One of the lists is laid anew, empty. -/
theorem FifoB.nil (h : FifoB B w0 w tb sb pb n m cs vals L K) {q : Nat} (hq : q < 16) :
    FifoB B w0 (w.setCell ⟨aB pb q, aO q, none⟩ (.slice none 0 0)) tb sb pb n m cs (fun r => if r = q then .slice none 0 0 else vals r) (fun r => if r = q then [] else L r) K :=
  h.setv hq (Nat.le_refl _) (Turn.refl _ _) (.inl ⟨rfl, rfl⟩) (Nat.zero_le _) (fun k hk => by simp [blkOf] at hk)

theorem FifoB.new {v1 : Array Value} (h : TabIs w tb sb n m (List.replicate n none)) (hb1 : B ≤ sb) (hb2 : B = w0.heap.size) (hb3 : Below B w0 w) (hv : v1.size = 8) (hv2 : ∀ q, q < 8 → v1[q]? = some (.slice none 0 0)) :
    FifoB B w0 ((w.alloc (.cells v1 62)).alloc (.cells v1 62)) tb sb w.heap.size n m (List.replicate n none) (fun _ => .slice none 0 0) (fun _ => []) 0 := by
  have hlt := h.lt
  refine ⟨h.turn' (((Turn.refl Nn _).alloc _).alloc _), ⟨v1, (Below.heap_alloc _ _ _ (by simp)).trans (World.alloc_heap_new w _), hv, hv2⟩, ⟨v1, World.alloc_heap_new (w.alloc _) _ |> (by simpa using ·), hv, hv2⟩, fun q hq => ⟨.inl ⟨rfl, rfl⟩, Nat.le_refl _⟩, fun q r g hq hr hne hg => by simp [blkOf] at hg, fun k hk => ?_, hlt, hb1, hb2, below_turn_n hb3 (((Turn.refl Nn _).alloc _).alloc _) (by omega)⟩
  have : k < w.heap.size := h.own_lt hk
  exact ⟨by omega, by omega, fun q hq hb => by simp [blkOf] at hb⟩

/-- What was put is what was taken, and what waits. -/
def Eqs (n : Nat) (cs : List (Option Ch)) (L : Nat → List Int) : Prop := ∀ i s, i < n → L (hd i s) = L (8 + hd i s) ++ wt cs i s

theorem Eqs.put {n cs cs' L} {i : Nat} {s : Bool} {x : Int} (h : Eqs n cs L) (hn : n ≤ 4) (hi : i < n) (hw : ∀ j r, wt cs' j r = if j = i ∧ r = s then wt cs i s ++ [x] else wt cs j r) :
    Eqs n cs' (fun r => if r = hd i s then L (hd i s) ++ [x] else L r) := fun j r hj => by
  have hlt : hd i s < 8 := by unfold hd zOf; split <;> omega
  have h8 : ¬ 8 + hd j r = hd i s := by omega
  simp only [h8, if_false]
  rw [hw]
  by_cases e : hd j r = hd i s
  · obtain ⟨rfl, rfl⟩ := hd_inj e
    simp only [if_true, and_self]
    rw [h j r hj, List.append_assoc]
  · have e2 : ¬ (j = i ∧ r = s) := fun ⟨a, b⟩ => e (by rw [a, b])
    simp only [e, e2, if_false]
    exact h j r hj

theorem Eqs.take {n cs cs' L} {i : Nat} {s : Bool} {x : Int} (h : Eqs n cs L) (hn : n ≤ 4) (hi : i < n) (h1 : wt cs i (!s) = x :: wt cs' i (!s)) (h2 : ∀ j r, ¬ (j = i ∧ r = !s) → wt cs' j r = wt cs j r) :
    Eqs n cs' (fun r => if r = 8 + hd i (!s) then L (8 + hd i (!s)) ++ [x] else L r) := fun j r hj => by
  have hlt : ∀ j r, j < n → hd j r < 8 := fun j r hj => by unfold hd zOf; split <;> omega
  have h8 : ¬ hd j r = 8 + hd i (!s) := by have := hlt j r hj; omega
  simp only [h8, if_false]
  by_cases e : 8 + hd j r = 8 + hd i (!s)
  · obtain ⟨rfl, rfl⟩ := hd_inj (by omega : hd j r = hd i (!s))
    simp only [if_true]
    rw [h j (!s) hj, h1]; simp
  · have e2 : ¬ (j = i ∧ r = !s) := fun ⟨a, b⟩ => e (by rw [a, b])
    simp only [e, if_false]
    rw [h2 j r e2]
    exact h j r hj

theorem Eqs.reset {n cs cs' L} {i : Nat} (h : Eqs n cs L) (hn : n ≤ 4) (hi : i < n) (h1 : ∀ r, wt cs' i r = []) (h2 : ∀ j r, j ≠ i → wt cs' j r = wt cs j r) {L' : Nat → List Int} (hL : ∀ s, L' (hd i s) = [] ∧ L' (8 + hd i s) = []) (hL2 : ∀ j s, j < n → j ≠ i → L' (hd j s) = L (hd j s) ∧ L' (8 + hd j s) = L (8 + hd j s)) :
    Eqs n cs' L' := fun j r hj => by
  by_cases e : j = i
  · subst e
    rw [(hL r).1, (hL r).2, h1]; rfl
  · rw [(hL2 j r hj e).1, (hL2 j r hj e).2, h2 j r e]
    exact h j r hj

theorem Eqs.same {n cs cs' L} (h : Eqs n cs L) (h2 : ∀ j r, wt cs' j r = wt cs j r) : Eqs n cs' L := fun j r hj => by rw [h2]; exact h j r hj
theorem Eqs.new (n : Nat) : Eqs n (List.replicate n none) (fun _ => []) := fun i s hi => by
  have : wt (List.replicate n none) i s = [] := by
    unfold wt; rw [List.getElem?_replicate]; simp only [hi, if_true]
  rw [this]; rfl
end Go.Proofs.Ytjnekmdocbmofaa
