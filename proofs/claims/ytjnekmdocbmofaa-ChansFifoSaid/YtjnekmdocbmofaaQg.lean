/- List: what one round's copy does. -/
import Derived.Test.YtjnekmdocbmofaaQf
import Derived.Test.YtjnekmdocbmofaaPl
namespace Go.Proofs.Ytjnekmdocbmofaa
set_option linter.unusedSimpArgs false
set_option linter.unusedVariables false
open Go.RowKit Go.Shelf

theorem under35 : Try.prog.underlying 35 = some (.slice 2) := by kernel_rfl
theorem info2' : (Try.prog.info? 2).map (fun i => (i.zero, i.size, i.bytes)) = some (some (.int .i64 0), 1, 8) := by kernel_rfl

def zcells (n : Nat) : Array Value := madeCells #[.int .i64 0] n

def ints (l : List Int) : Array Value := (l.map (Value.int .i64)).toArray

theorem zcells_eq (n : Nat) : zcells n = ints (List.replicate n 0) := by
  unfold zcells ints madeCells
  apply Array.ext
  · simp
  · intro i h1 h2
    simp [Nat.mod_one]

def rowList (r : List Int) (f n m : Nat) (x : Bool) : List Int := (r.drop (rowOff f x)).take (rowLen f n m x)
def catRows (r : List Int) (f n m : Nat) (pre : List Bool) : List Int := pre.flatMap (rowList r f n m)
def outs (r : List Int) (f n m : Nat) (pre : List Bool) : List Int := ((catRows r f n m pre) ++ List.replicate n 0).take n

theorem rowList_length {w b r f n m} (h : QAt w b r f n m) (x : Bool) : (rowList r f n m x).length = rowLen f n m x := by
  have h1 := h.len; have h2 := h.m16; have h3 := h.fm; have h4 := h.nm
  cases x <;> simp [rowList, rowOff, rowLen, h1] <;> omega

theorem catRows_snoc (r : List Int) (f n m : Nat) (pre : List Bool) (x : Bool) : catRows r f n m (pre ++ [x]) = catRows r f n m pre ++ rowList r f n m x := by
  simp [catRows]

theorem rowOff_lt {w b r f n m} (h : QAt w b r f n m) (x : Bool) : rowOff f x + rowLen f n m x ≤ 16 := by
  have h1 := h.len; have h2 := h.m16; have h3 := h.fm; have h4 := h.nm
  cases x <;> simp [rowOff, rowLen] <;> omega

def LI (w : World) (s0 : Nat) (r : List Int) (f n m : Nat) (pre : List Bool) (W : World) : Prop :=
  (W.heap[s0]? = some (.cells (ints (outs r f n m pre)) 2) ∧ W.heap[s0 + 1]? = some (.cells #[.slice (some ⟨s0, 0, none⟩) n n] 35) ∧
  W.heap[s0 + 2]? = some (.cells #[.int .i64 ((min n (catRows r f n m pre).length : Nat) : Int)] 3)) ∧ Below s0 w W

theorem cell_blk {w : World} {b : Nat} {c : Array Value} {t : TypeId} (h : w.heap[b]? = some (.cells c t)) (i : Nat) : w.cell? ⟨b, i, none⟩ = c[i]? := by
  simp [World.cell?, h]
theorem frozen_blk {w : World} {b : Nat} {c : Array Value} {t : TypeId} (h : w.heap[b]? = some (.cells c t)) (i : Nat) : w.frozen? ⟨b, i, none⟩ = false := by
  simp [World.frozen?, h]

theorem run_sliceFrom35 (s0 n a : Nat) (h : a ≤ n) (w : World) :
    (Instr.sliceAt 35 (.slice (some ⟨s0, 0, none⟩) n n) (some (.int .i64 (a : Int))) none none).run Try.prog w = .ok (.slice (some (if a = n then ⟨s0, 0, none⟩ else ⟨s0, a, none⟩)) (n - a) (n - a)) w := by
  have h8 := info2
  cases hq : Try.prog.info? 2 with
  | none => simp [hq] at h8
  | some i =>
    have hi' : i.size = 1 := by simpa [hq] using h8
    have e2 : (a : Int) ≤ n := by omega
    by_cases hl : a = n
    · subst hl
      simp [Instr.sliceAt, Instr.slice, run_underlying under35, go_sem, sizeOf, typeInfo, hq]
    · have e : ¬ (n = a) := by omega
      by_cases h0 : a = 0
      · subst h0
        simp [Instr.sliceAt, Instr.slice, run_underlying under35, go_sem, sizeOf, typeInfo, hq, hl]
      · simp [Instr.sliceAt, Instr.slice, run_underlying under35, go_sem, sizeOf, typeInfo, hq, hi', e, hl, e2, h0]

/-- What one round's copy does. -/
theorem copy_round {W : World} {s0 b : Nat} {r : List Int} {f n m : Nat} (hq : QAt W b r f n m) (pre : List Bool) (x : Bool)
    (i1 : W.heap[s0]? = some (.cells (ints (outs r f n m pre)) 2)) :
    ∃ (ad : Addr) (c : Nat) (W2 : World), (∀ w, (Instr.sliceAt 35 (.slice (some ⟨s0, 0, none⟩) n n) (some (.int .i64 ((min n (catRows r f n m pre).length : Nat) : Int))) none none).run Try.prog w = .ok (.slice (some ad) (n - min n (catRows r f n m pre).length) (n - min n (catRows r f n m pre).length)) w) ∧
      (Builtin.copy_ #[35, 35] 3 #[.slice (some ad) (n - min n (catRows r f n m pre).length) (n - min n (catRows r f n m pre).length), .slice (some ⟨b, rowOff f x, none⟩) (rowLen f n m x) (16 - rowOff f x)]).run Try.prog W.drew = .ok (.int .i64 c) W2 ∧
      (min n (catRows r f n m pre).length + c = min n (catRows r f n m (pre ++ [x])).length) ∧ W2.heap[s0]? = some (.cells (ints (outs r f n m (pre ++ [x]))) 2) ∧ (∀ i, i ≠ s0 → W2.heap[i]? = W.heap[i]?) ∧ W2.os = W.os ∧ W2.tape = W.tape ∧ W2.output = W.output ∧ W2.heap.size = W.heap.size := by
  obtain ⟨L, hL⟩ : ∃ L, catRows r f n m pre = L := ⟨_, rfl⟩
  obtain ⟨rl, hrl⟩ : ∃ rl, rowList r f n m x = rl := ⟨_, rfl⟩
  have hlen : rl.length = rowLen f n m x := by rw [← hrl]; exact rowList_length hq x
  have hoff := rowOff_lt hq x
  have hout : outs r f n m pre = (L ++ List.replicate n 0).take n := by unfold outs; rw [hL]
  have hout2 : outs r f n m (pre ++ [x]) = ((L ++ rl) ++ List.replicate n 0).take n := by unfold outs; rw [catRows_snoc, hL, hrl]
  rw [catRows_snoc, hL, hrl, hout2]
  rw [hout] at i1
  by_cases hA : L.length < n
  · have e1 : min n L.length = L.length := by omega
    rw [e1]
    obtain ⟨c, hc⟩ : ∃ c, c = min rl.length (n - L.length) := ⟨_, rfl⟩
    have hc1 : c ≤ rl.length := by omega
    have hc2 : c ≤ n - L.length := by omega
    have hc3 : ((rl.take c).map (Value.int .i64)).length = c := by simp; omega
    have i1' : W.drew.heap[s0]? = some (.cells (ints ((L ++ List.replicate n 0).take n)) 2 (0, 0)) := i1
    have hcp := run_copy_row Try.prog W.drew 35 35 3 2 s0 L.length (n - L.length) (n - L.length) ⟨b, rowOff f x, none⟩ (rowLen f n m x) (16 - rowOff f x)
      (ints ((L ++ List.replicate n 0).take n)) 2 ((rl.take c).map (Value.int .i64)) under35 info2 i1' (by rw [hc3, hc, hlen])
      (fun j v hj => by
        have hj2 : j < c := by
          have := (List.getElem?_eq_some_iff.1 hj).1
          omega
        have hj3 : rowOff f x + j < 16 := by omega
        have hcell : W.cell? ⟨b, rowOff f x + j, none⟩ = some (.int .i64 (r[rowOff f x + j]?.getD 0)) := hq.i _ hj3
        have hadd : (⟨b, rowOff f x, none⟩ : Addr).add j = ⟨b, rowOff f x + j, none⟩ := by unfold Addr.add; split <;> simp_all
        rw [hadd]
        show W.cell? _ = _
        rw [hcell, ← hj]
        have h16 := hq.len
        have hjl : j < rowLen f n m x := by omega
        simp [List.getElem?_take, hj2, ← hrl, rowList, List.getElem?_drop, h16, hj3, hjl])
      (by rw [hc3]; simp [ints]; omega) (fun v hv => by obtain ⟨y, _, rfl⟩ := List.mem_map.1 hv; rfl)
    rw [hc3] at hcp
    generalize hcs : (List.take L.length (ints (List.take n (L ++ List.replicate n 0))).toList ++ List.map (Value.int .i64) (List.take c rl) ++ List.drop (L.length + c) (ints (List.take n (L ++ List.replicate n 0))).toList).toArray = cs2 at hcp
    refine ⟨⟨s0, L.length, none⟩, c, W.drew.setRow s0 cs2, fun w => ?_, hcp, by simp; omega, ?_, fun i hi => ?_, rfl, rfl, rfl, setRow_size _ _ _⟩
    · rw [run_sliceFrom35 s0 n L.length (by omega) w, if_neg (by omega)]
    · rw [setRow_heap W.drew s0 _ _ 2 (0, 0) i1', ← outs_step L rl n c hA hc, ← hcs]
      simp [ints]
    · rw [setRow_other _ _ _ _ hi]; rfl
  · have e1 : min n L.length = n := by omega
    rw [e1]
    refine ⟨⟨s0, 0, none⟩, 0, W.drew, fun w => ?_, ?_, by simp; omega, ?_, fun i hi => rfl, rfl, rfl, rfl, rfl⟩
    · rw [run_sliceFrom35 s0 n n (by omega) w, if_pos rfl]
    · rw [run_copy_none (P := Try.prog) W.drew 35 35 3 2 _ _ _ _ _ _ under35 info2 (by simp)]; rfl
    · rw [show W.drew.heap[s0]? = W.heap[s0]? from rfl, i1, outs_big L n (by omega), outs_big (L ++ rl) n (by simp; omega), List.take_append_of_le_length (by omega)]

theorem round_end {w W W2 : World} {b : Nat} {r : List Int} {f n m : Nat} {pre : List Bool} {x : Bool} {at0 c : Nat} (hb : b < w.heap.size)
    (i1 : W.heap[w.heap.size]? = some (.cells (ints (outs r f n m pre)) 2)) (i2 : W.heap[w.heap.size + 1]? = some (.cells #[.slice (some ⟨w.heap.size, 0, none⟩) n n] 35))
    (i3 : W.heap[w.heap.size + 2]? = some (.cells #[.int .i64 (at0 : Int)] 3)) (i4 : Below w.heap.size w W)
    (h3 : at0 + c = min n (catRows r f n m (pre ++ [x])).length) (h4 : W2.heap[w.heap.size]? = some (.cells (ints (outs r f n m (pre ++ [x]))) 2)) (h5 : ∀ i, i ≠ w.heap.size → W2.heap[i]? = W.heap[i]?)
    (h6 : W2.os = W.os ∧ W2.tape = W.tape ∧ W2.output = W.output ∧ W2.heap.size = W.heap.size) :
    KeepsOthers W (W2.setCell ⟨w.heap.size + 1 + 1, 0, none⟩ (.int .i64 ((at0 : Int) + c))) ∧ Kpq b (w.heap.size + 1 + 1 + 1) W (W2.setCell ⟨w.heap.size + 1 + 1, 0, none⟩ (.int .i64 ((at0 : Int) + c))) ∧ LI w w.heap.size r f n m (pre ++ [x]) (W2.setCell ⟨w.heap.size + 1 + 1, 0, none⟩ (.int .i64 ((at0 : Int) + c))) := by
  have ho : ∀ i, i ≠ w.heap.size → i ≠ w.heap.size + 2 → (W2.setCell ⟨w.heap.size + 1 + 1, 0, none⟩ (.int .i64 ((at0 : Int) + c))).heap[i]? = W.heap[i]? := fun i h1 h2 =>
    (Below.heap_setCell _ _ _ _ (by show i ≠ w.heap.size + 1 + 1; omega)).trans (h5 i h1)
  refine ⟨⟨by simp [World.setCell, h6.2.2.2], fun i o hi hc => ?_⟩, ⟨ho _ (by omega) (by omega), ho _ (by omega) (by omega)⟩, ⟨?_, ?_, ?_⟩, ?_⟩
  · refine (ho i ?_ ?_).trans hi
    · rintro rfl; rw [i1] at hi; cases hi; cases hc
    · rintro rfl; rw [i3] at hi; cases hi; cases hc
  · exact (Below.heap_setCell _ _ _ _ (by show w.heap.size ≠ w.heap.size + 1 + 1; omega)).trans h4
  · exact (ho _ (by omega) (by omega)).trans i2
  · have := heap_setCell_at ((h5 (w.heap.size + 2) (by omega)).trans i3) 0 (.int .i64 ((at0 : Int) + c))
    rw [← h3, Int.natCast_add]
    exact this
  · exact i4.trans ⟨h6.1, h6.2.1, h6.2.2.1, by simp [World.setCell, h6.2.2.2], fun k hk => ho k (by omega) (by omega)⟩
end Go.Proofs.Ytjnekmdocbmofaa
