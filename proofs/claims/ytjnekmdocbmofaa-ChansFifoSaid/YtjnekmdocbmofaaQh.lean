/- List, walked. -/
import Derived.Test.YtjnekmdocbmofaaQg
import Derived.Sort.QuietIn
namespace Go.Proofs.Ytjnekmdocbmofaa
set_option linter.unusedSimpArgs false
set_option linter.unusedVariables false
open Go.RowKit Go.Shelf
attribute [local go_sem] Oper.semAt_some

/-- The queue's words, in order: piece by piece. -/
def qpieces (r : List Int) (f n m : Nat) : List Int := catRows r f n m [false, true]

theorem qpieces_length {w b r f n m} (h : QAt w b r f n m) : (qpieces r f n m).length = n := by
  have h1 := rowList_length h false
  have h2 := rowList_length h true
  have h3 := h.nm
  have h4 := h.fm
  simp [qpieces, catRows, h1, h2, rowLen]
  omega

set_option maxRecDepth 100000 in
set_option maxHeartbeats 4000000 in
theorem list_in (HR : RowsSaid) (k : Nat) (hk : 3 ≤ k) {w b r f n m} (h : QAt w b r f n m) (hn : 0 < n) :
    CallsIn Fence.wide k Try.prog 22 #[.pointer (some ⟨b, 0, none⟩)] w fun e w' => e = .returned (.slice (some ⟨w.heap.size, 0, none⟩) n n) ∧ w'.heap[w.heap.size]? = some (.cells (ints (qpieces r f n m)) 2) ∧ Below w.heap.size w w' ∧ w.heap.size < w'.heap.size := by
  have h1 := h.n
  have hn16 : n ≤ 16 := by have := h.nm; have := h.m16; omega
  have hne : ((n : Int) == 0) = false := by rw [beq_eq_false_iff_ne]; omega
  have hmk : ∀ w, (Instr.makeSlice 35 (.int .i64 n) (.int .i64 n)).run Try.prog w = .ok (.slice (some ⟨w.heap.size, 0, none⟩) n n) (w.alloc (.cells (zcells n) 2)) := fun w => run_make_row' 35 2 (.int .i64 0) 8 under35 info2' rfl .i64 .i64 n (by omega) (by omega) w
  refine callsIn_of_wp_marks Try.func22 rfl trivial ?_ rfl
  simp only [Try.ntmps22, List.size_toArray, List.length_cons, List.length_nil, Nat.reduceAdd, Nat.reduceSub, Array.replicate_succ, Array.replicate_zero, List.push_toArray, List.append_toArray, List.nil_append, List.cons_append]
  gi_wp2_with fail
  refine ⟨trivial, fun _ => by omega, (callsIn_wide.2 (len_any h)).mono ?_⟩
  rintro e w' ⟨rfl, j, rfl⟩
  gi_wp2_with fail
  refine ⟨trivial, fun _ => by omega, (rows_any (k - 1) (.pointer (some ⟨b, 0, none⟩)) _ ⟨_, rfl⟩).mono ?_⟩
  rintro e w' ⟨rfl, rfl⟩
  gi_wp2_with fail
  obtain ⟨W0, hW0⟩ : ∃ W0, (((((w.drewN j).alloc (.cells (zcells n) 2)).alloc (.cells #[.slice (some ⟨w.heap.size, 0, none⟩) n n] 35)).alloc (.cells #[.int .i64 0] 3)).alloc (.cells #[.pointer (some ⟨b, 0, none⟩)] 23)) = W0 := ⟨_, rfl⟩
  have hsz : W0.heap.size = w.heap.size + 4 := by rw [← hW0]; simp
  have hBW : Below w.heap.size w W0 := by
    rw [← hW0]
    exact ((((below_drewN (Below.refl _ _) _).alloc (Nat.le_refl _) _).alloc (by simp) _).alloc (by simp; omega) _).alloc (by simp; omega) _
  have hq0 : QAt W0 b r f n m := h.eqb (hBW.block b h.lt)
  have hHP : W0.heap = (((w.heap.push (.cells (zcells n) 2)).push (.cells #[.slice (some ⟨w.heap.size, 0, none⟩) n n] 35)).push (.cells #[.int .i64 0] 3)).push (.cells #[.pointer (some ⟨b, 0, none⟩)] 23) := by rw [← hW0]; rfl
  have hp0 : W0.heap[w.heap.size]? = some (.cells (zcells n) 2) := by
    rw [hHP]; simp only [Array.getElem?_push, Array.size_push]; rw [if_neg (by omega), if_neg (by omega), if_neg (by omega), if_pos trivial]
  have hp1 : W0.heap[w.heap.size + 1]? = some (.cells #[.slice (some ⟨w.heap.size, 0, none⟩) n n] 35) := by
    rw [hHP]; simp only [Array.getElem?_push, Array.size_push]; rw [if_neg (by omega), if_neg (by omega), if_pos trivial]
  have hp2 : W0.heap[w.heap.size + 2]? = some (.cells #[.int .i64 0] 3) := by
    rw [hHP]; simp only [Array.getElem?_push, Array.size_push]; rw [if_neg (by omega), if_pos trivial]
  have hp3 : W0.heap[w.heap.size + 1 + 1 + 1]? = some (.cells #[.pointer (some ⟨b, 0, none⟩)] 23) := by
    rw [hHP]; simp only [Array.getElem?_push, Array.size_push]; rw [if_pos trivial]
  have hbx : W0.cell? ⟨w.heap.size + 1 + 1 + 1, 0, none⟩ = some (.pointer (some ⟨b, 0, none⟩)) := cell_blk hp3 0
  have hLI : LI w w.heap.size r f n m [] W0 := by
    refine ⟨⟨?_, hp1, ?_⟩, hBW⟩
    · rw [hp0, zcells_eq]; simp [outs, catRows]
    · rw [hp2]; simp [catRows]
  rw [hW0]
  clear hHP hp0 hp1 hp2 hp3 hW0
  refine wpIn_rangeRows HR (by omega) rfl hq0 hbx (fun pre W => LI w w.heap.size r f n m pre W) ?hI ?hId hLI
    (fun x => { tmps := #[.pointer (some ⟨b, 0, none⟩), undef, .slice none 0 0, .pointer (some ⟨w.heap.size + 1, 0, none⟩), .pointer (some ⟨w.heap.size + 1 + 1, 0, none⟩), .slice (some ⟨b, rowOff f x, none⟩) (rowLen f n m x) (16 - rowOff f x), .pointer (some ⟨b, 0, none⟩), .int .i64 n, .bool false, .pointer (some ⟨b, 0, none⟩), .pointer (some ⟨b, 0, none⟩), .pointer (some ⟨b, 17, none⟩), .int .i64 n, .slice (some ⟨w.heap.size, 0, none⟩) n n, .pointer (some ⟨b, 0, none⟩), .func (.func 59) #[] #[.pointer (some ⟨w.heap.size + 1 + 1 + 1, 0, none⟩)], .slice (some ⟨b, rowOff f x, none⟩) (rowLen f n m x) (16 - rowOff f x), undef, undef, undef, undef, undef, undef, undef, undef], defers := [] }) ?assign ?body ?done
  case hI =>
    refine OwnFrom.and ?_ (ownFrom_below (Nat.le_refl _) (by omega))
    intro pre W W' row ⟨i1, i2, i3⟩ hg hr
    have key : ∀ i (o : Obj), i < w.heap.size + 4 → W.heap[i]? = some o → W'.heap[i]? = some o := fun i o hi ho => by
      refine (hg.block i (Array.getElem?_eq_some_iff.1 ho).1 (fun e => ?_)).trans ho
      have := (hr i e.symm).1
      omega
    exact ⟨key _ _ (by omega) i1, key _ _ (by omega) i2, key _ _ (by omega) i3⟩
  case hId =>
    rintro pre W j ⟨hi, hb⟩
    exact ⟨hi, below_drewN hb j⟩
  case assign =>
    intro l x W K hK
    simp only [rowEnc, List.zip_toArray, List.zip_cons_cons, List.zip_nil_right, List.size_toArray, List.length_cons, List.length_nil, List.foldl_toArray, List.foldl_cons, List.foldl_nil]
    gi_wp2
    exact hK
  case body =>
    rintro l pre x W ⟨⟨i1, i2, i3⟩, i4⟩ hb1 hB1
    obtain ⟨ad, c, W2, hs1, hs2, hs3, hs4, hs5, hs6⟩ := copy_round (hq0.eqb hb1) pre x i1
    have hs8 := hs5 _ (show w.heap.size + 2 ≠ w.heap.size by omega)
    obtain ⟨at0, hat⟩ : ∃ at0, min n (catRows r f n m pre).length = at0 := ⟨_, rfl⟩
    rw [hat] at i3 hs1 hs2 hs3
    have hcn : at0 + c ≤ n := by omega
    have HW := Lib.hid (show IntKind.i64.wrap ((at0 : Int) + c) = (at0 : Int) + c by rw [IntKind.wrap_i64]; omega)
    have HS3 := Lib.hid hs3
    clear hs3 hat
    have HS4 := Lib.hid hs4
    have HS5 := Lib.hid hs5
    have HS6 := Lib.hid hs6
    have I1 := Lib.hid i1
    have I2 := Lib.hid i2
    have I3 := Lib.hid i3
    have c1 := cell_blk i2 0
    have c2 := cell_blk i3 0
    have c3 := cell_blk (hs8.trans i3) 0
    have c4 := frozen_blk (hs8.trans i3) 0
    simp only [List.getElem?_toArray, List.getElem?_cons_zero] at c1 c2 c3
    clear hs4 hs5 hs6 hs8 i1 i2 i3 hb1 hB1
    gi_wp2
    gi_region
    all_goals
      gi_wp2
      rw [HW.out]
      exact round_end h.lt I1.out I2.out I3.out i4 HS3.out HS4.out HS5.out HS6.out
  case done =>
    rintro D W hD ⟨⟨i1, i2, i3⟩, i4⟩ hK
    have c1 := cell_blk i2 0
    simp only [List.getElem?_toArray, List.getElem?_cons_zero] at c1
    gi_wp2
    refine ⟨by simp, .inl ⟨_, _, rfl, run_takeDeferred hK, ?_⟩⟩
    refine ⟨_, results_tmp rfl _ _ _, rfl, ?_, ?_, ?_⟩
    · refine (World.putObj_heap_other (by omega)).trans (i1.trans ?_)
      have := qpieces_length h
      unfold qpieces at this ⊢
      unfold outs
      rw [outs_small _ _ (by omega), this]
      simp
    · exact i4.trans (belowK_b (w := w) (Nat.le_refl _) W D _ _ (by omega) hK rfl rfl)
    · have := (Array.getElem?_eq_some_iff.1 i1).1
      simpa [World.putObj] using this
end Go.Proofs.Ytjnekmdocbmofaa
