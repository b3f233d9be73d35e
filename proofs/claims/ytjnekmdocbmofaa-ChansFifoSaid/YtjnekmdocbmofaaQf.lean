/- Exploration: List. -/
import Derived.Test.YtjnekmdocbmofaaQc
import Derived.Deep.OwnRows
namespace Go.Proofs.Ytjnekmdocbmofaa
set_option linter.unusedSimpArgs false
set_option linter.unusedVariables false
open Go.RowKit Go.Shelf
attribute [local go_sem] Oper.semAt_some

/-- The iterator's contract, for a body that always goes on. -/
def RowsSaid : Prop := ∀ (k : Nat) (_ : 1 ≤ k) (l b Bx : Nat) (r : List Int) (f n m : Nat) (J : List Bool → World → Prop)
    (_ : ∀ pre x W, J pre W → YieldAt Fence.wide (k - 1) Try.prog l (rowEnc b f n m x) W fun e W' => e = .returned (.bool true) ∧ J (pre ++ [x]) W' ∧ Kpq b Bx W W')
    (_ : ∀ pre W j, J pre W → J pre (W.drewN j))
    (W : World) (_ : W.cell? ⟨Bx, 0, none⟩ = some (.pointer (some ⟨b, 0, none⟩))) (_ : QAt W b r f n m) (_ : J [] W),
    CallsIn Fence.wide k Try.prog 59 #[.func (.yield l) #[] #[], .pointer (some ⟨Bx, 0, none⟩)] W fun e W' => (∃ v, e = .returned v) ∧ J [false, true] W'

/-- How a round may be left: it goes on. -/
def goesOn (Kp : World → World → Prop) (I : List Bool → World → Prop) (xs : List Bool) (W : World) : Exit → Act → World → Prop
  | .normal, _, W' => KeepsOthers W W' ∧ Kp W W' ∧ I xs W'
  | _, _, _ => False

theorem wpIn_rangeRows (HR : RowsSaid) {n : Nat} {g : Operand} {p : Tmp} {assign body : Code} {Q : Exit → Act → World → Prop} {a : Act} {w : World} (h1 : 2 ≤ n)
    {b Bx : Nat} {r : List Int} {f k m : Nat} (hg : a.eval g = .func (.func 59) #[] #[.pointer (some ⟨Bx, 0, none⟩)]) (hq : QAt w b r f k m) (hbx : w.cell? ⟨Bx, 0, none⟩ = some (.pointer (some ⟨b, 0, none⟩)))
    (I : List Bool → World → Prop) (hI : OwnFrom w.heap.size I) (hId : ∀ pre W j, I pre W → I pre (W.drewN j)) (h0 : I [] w) (a₁ : Bool → Act)
    (hassign : ∀ (l : Nat) (x : Bool) (W : World) (K : Act → World → Prop), K (a₁ x) W →
      assign.wpIn (Fence.wide.inRound l) (n - 1 - 1) Try.prog (Exit.then K (fun _ _ _ => False)) { tmps := ((#[p] : Array Tmp).zip (rowEnc b f k m x)).foldl (fun t (p, v) => t.setIfInBounds p v) a.tmps, defers := [] } W)
    (hbody : ∀ (l : Nat) (pre : List Bool) (x : Bool) (W : World), I pre W → W.heap[b]? = w.heap[b]? → W.heap[Bx]? = w.heap[Bx]? → body.wpIn (Fence.wide.inRound l) (n - 1 - 1) Try.prog (goesOn (Kpq b Bx) I (pre ++ [x]) W) (a₁ x) W)
    (hdone : ∀ (D : Nat) (W : World), w.heap.size ≤ D → I [false, true] W → W.heap[D]? = some (.deferred (some [])) → Q .normal { a with defers := { target := .collected D, args := #[] } :: a.defers } W) :
    (Code.rangeFunc g #[p] assign body).wpIn Fence.wide n Try.prog Q a w := by
  have hb : b < w.heap.size := hq.lt
  have hB : Bx < w.heap.size := World.block_lt_of_cell? w _ hbx
  refine wpIn_rangeFunc ?_
  intro fn hfn
  obtain ⟨rec, hrec⟩ : ∃ rec : LoopState → Option Code → Loop, rec = fun st pe => { state := st, pending := pe, fn, tmps := a.tmps, params := #[p], assign, body, defers := w.heap.size } := ⟨_, rfl⟩
  obtain ⟨W1, hW1⟩ : ∃ W1, (w.alloc (.deferred (some []))).alloc (.loop (rec .ready none)) = W1 := ⟨_, rfl⟩
  have e1 : ∀ i, i < w.heap.size → W1.heap[i]? = w.heap[i]? := fun i hi => by
    rw [← hW1]; exact (Below.heap_alloc _ _ _ (by simp; omega)).trans (Below.heap_alloc _ _ _ hi)
  have hL1 : W1.heap[w.heap.size + 1]? = some (.loop (rec .ready none)) := by
    rw [← hW1]; have := World.alloc_heap_new (w.alloc (.deferred (some []))) (.loop (rec .ready none)); rwa [World.size_alloc] at this
  have hK1 : W1.heap[w.heap.size]? = some (.deferred (some [])) := by
    rw [← hW1]; exact (Below.heap_alloc _ _ _ (by simp)).trans (World.alloc_heap_new w _)
  have hI1 : I [] W1 := by rw [← hW1]; exact hI.alloc _ (hI.alloc _ h0)
  refine ⟨w.heap.size + 1, [{ target := .collected w.heap.size, args := #[] }], W1, { target := .fn (.func 59) #[.pointer (some ⟨Bx, 0, none⟩)], args := #[.func (.yield (w.heap.size + 1)) #[] #[]] }, W1, 59,
    #[.func (.yield (w.heap.size + 1)) #[] #[]] ++ #[.pointer (some ⟨Bx, 0, none⟩)], W1, ?_, ?_, ?_, ?_, fun _ => by omega, ?_⟩
  · rw [← hW1, hrec]; exact run_enterLoop_outer _ _ _ _ _
  · simp only [resolve, hg]
    simp [go_sem]
  · intro f' _; trivial
  · have eg := enters_of Try.func59 (by kernel_rfl) rfl
    simp [invoke, go_sem, eg]
  · refine (HR (n - 1) (by omega) (w.heap.size + 1) b Bx r f k m
      (fun pre W => I pre W ∧ W.heap[b]? = w.heap[b]? ∧ W.heap[Bx]? = w.heap[Bx]? ∧ W.heap[w.heap.size + 1]? = some (.loop (rec .ready none)) ∧ W.heap[w.heap.size]? = some (.deferred (some [])))
      ?_ (fun pre W j hs => ⟨hId pre W j hs.1, hs.2⟩) W1 ((World.cell?_of_block (e1 Bx hB)).trans hbx) (hq.eqb (e1 b hb)) ⟨hI1, e1 b hb, e1 Bx hB, hL1, hK1⟩).mono ?_
    · rintro pre x W ⟨hi, hb2, hB2, hl, hk⟩
      have hlt : w.heap.size + 1 < W.heap.size := (Array.getElem?_eq_some_iff.1 hl).1
      have hy := run_yield (P := Try.prog) (args := rowEnc b f k m x) hl (by rw [hrec]; rfl)
      rw [hrec] at hy
      refine ⟨fn, _, assign, body, hy, roundIn_of_wpIn hfn (hassign _ x W _ ⟨_, run_beginRound hl (by rw [hrec]), ?_⟩)⟩
      have hl2 : (W.putObj (w.heap.size + 1) (.loop { rec .ready none with state := .busy })).heap[w.heap.size + 1]? = some (.loop { rec .ready none with state := .busy }) := World.putObj_heap_same hlt
      have hot : ∀ i, i ≠ w.heap.size + 1 → (W.putObj (w.heap.size + 1) (.loop { rec .ready none with state := .busy })).heap[i]? = W.heap[i]? := fun i hi => World.putObj_heap_other (by omega)
      refine wpIn_mono (hbody _ pre x _ (hI.putObj _ hi (by omega) hl rfl) ((hot b (by omega)).trans hb2) ((hot Bx (by omega)).trans hB2)) ?_
      rintro e a3 W3 hp
      cases e with
      | normal =>
        obtain ⟨hk3, hkp3, hi3⟩ := hp
        have hl3 := hk3.same _ _ hl2 rfl
        have hr := run_endRound (P := Try.prog) none hl3
        have ho3 : ∀ i o, i ≠ w.heap.size + 1 → (W3.putObj (w.heap.size + 1) o).heap[i]? = W3.heap[i]? := fun i o hi => World.putObj_heap_other (by omega)
        rw [hrec] at hr
        refine ⟨_, _, hr, rfl, ⟨hI.putObj _ hi3 (by omega) hl3 rfl, ?_, ?_, ?_, ?_⟩, ?_, ?_⟩
        · exact (ho3 _ _ (by omega)).trans (hkp3.1.trans ((hot b (by omega)).trans hb2))
        · exact (ho3 _ _ (by omega)).trans (hkp3.2.trans ((hot Bx (by omega)).trans hB2))
        · rw [hrec]; exact World.putObj_heap_same (Array.getElem?_eq_some_iff.1 hl3).1
        · exact (ho3 _ _ (by omega)).trans (hk3.same _ _ ((hot _ (by omega)).trans hk) rfl)
        · exact (ho3 _ _ (by omega)).trans (hkp3.1.trans (hot b (by omega)))
        · exact (ho3 _ _ (by omega)).trans (hkp3.2.trans (hot Bx (by omega)))
      | ret => exact hp.elim
      | exit id => exact hp.elim
      | goto t => exact hp.elim
      | panic ch => exact hp.elim
      | outgrown => exact hp.elim
    · rintro e W2 ⟨⟨v, rfl⟩, hi, _, _, hl, hk⟩
      exact ⟨none, _, by have := run_endLoop (P := Try.prog) hl (by rw [hrec]; simp); rw [hrec] at this; exact this, hdone _ _ (Nat.le_refl _) (hI.putObj _ hi (by omega) hl rfl) ((World.putObj_heap_other (by omega)).trans hk)⟩

end Go.Proofs.Ytjnekmdocbmofaa
