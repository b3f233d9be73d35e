/- A range over a text's lines, whose body goes on, or returns. -/
import Derived.Test.YtjnllclpdllceaaGreatDoorSn
namespace Go.Proofs.YtjnllclpdllceaaGreatDoor
set_option linter.unusedSimpArgs false
set_option linter.unusedVariables false
open Go.RowKit Go.Shelf
attribute [local go_sem] Oper.semAt_some

/-- How a round may be left. -/
def linePost (Bx : Nat) (I : Bs → World → Prop) (Ix : World → Prop) (rest : Bs) (W : World) : Exit → Act → World → Prop
  | .normal, _, W' => KeepsOthers W W' ∧ W'.heap[Bx]? = W.heap[Bx]? ∧ I rest W'
  | .ret, _, W' => KeepsOthers W W' ∧ Ix W'
  | _, _, _ => False

theorem wpIn_rangeLines {n : Nat} {g : Operand} {p : Tmp} {assign body : Code} {Q : Exit → Act → World → Prop} {a : Act} {w : World} (h1 : 2 ≤ n)
    {Bx : Nat} {t0 : Bs} (hlen : t0.length ≤ 1000000) (hg : a.eval g = .func (.func 56) #[] #[.pointer (some ⟨Bx, 0, none⟩)]) (hbx : w.heap[Bx]? = some (.cells #[.string (BT t0)] 9))
    (I : Bs → World → Prop) (Ix : World → Prop) (hI : OwnFrom w.heap.size I) (hIx : OwnFrom w.heap.size (fun (_ : Unit) W => Ix W)) (hIB : ∀ t W W', I t W → Turn (At1 Bx) W W' → I t W') (h0 : I t0 w) (a₁ : ByteArray → Act)
    (hassign : ∀ (l : Nat) (x : ByteArray) (W : World) (K : Act → World → Prop), K (a₁ x) W →
      assign.wpIn (Fence.wide.inRound l) (n - 1 - 1) Tryz.prog (Exit.then K (fun _ _ _ => False)) { tmps := ((#[p] : Array Tmp).zip #[Value.string x]).foldl (fun t (p, v) => t.setIfInBounds p v) a.tmps, defers := [] } W)
    (hbody : ∀ (l : Nat) (t : Bs) (W : World), t ≠ [] → t.length ≤ t0.length → I t W → W.heap[Bx]? = some (.cells #[.string (BT (nextL t).2)] 9) → body.wpIn (Fence.wide.inRound l) (n - 1 - 1) Tryz.prog (linePost Bx I Ix (nextL t).2 W) (a₁ (BT (nextL t).1)) W)
    (hdone : ∀ (D : Nat) (W : World), w.heap.size ≤ D → I [] W → W.heap[D]? = some (.deferred (some [])) → Q .normal { a with defers := { target := .collected D, args := #[] } :: a.defers } W)
    (hstop : ∀ (D : Nat) (W : World), w.heap.size ≤ D → Ix W → W.heap[D]? = some (.deferred (some [])) → Code.ret.wpIn Fence.wide n Tryz.prog Q { a with defers := { target := .collected D, args := #[] } :: a.defers } W) :
    (Code.rangeFunc g #[p] assign body).wpIn Fence.wide n Tryz.prog Q a w := by
  have hB : Bx < w.heap.size := heap_lt hbx
  refine wpIn_rangeFunc ?_
  intro fn hfn
  obtain ⟨rec, hrec⟩ : ∃ rec : LoopState → Option Code → Loop, rec = fun st pe => { state := st, pending := pe, fn, tmps := a.tmps, params := #[p], assign, body, defers := w.heap.size } := ⟨_, rfl⟩
  obtain ⟨W1, hW1⟩ : ∃ W1, (w.alloc (.deferred (some []))).alloc (.loop (rec .ready none)) = W1 := ⟨_, rfl⟩
  have e1 : ∀ i, i < w.heap.size → W1.heap[i]? = w.heap[i]? := fun i hi => by
    rw [← hW1]; exact (Below.heap_alloc _ _ _ (by rw [World.size_alloc]; omega)).trans (Below.heap_alloc _ _ _ hi)
  have hL1 : W1.heap[w.heap.size + 1]? = some (.loop (rec .ready none)) := by
    rw [← hW1]; have := World.alloc_heap_new (w.alloc (.deferred (some []))) (.loop (rec .ready none)); rwa [World.size_alloc] at this
  have hK1 : W1.heap[w.heap.size]? = some (.deferred (some [])) := by
    rw [← hW1]; exact (Below.heap_alloc _ _ _ (by simp)).trans (World.alloc_heap_new w _)
  have hI1 : I t0 W1 := by rw [← hW1]; exact hI.alloc _ (hI.alloc _ h0)
  refine ⟨w.heap.size + 1, [{ target := .collected w.heap.size, args := #[] }], W1, { target := .fn (.func 56) #[.pointer (some ⟨Bx, 0, none⟩)], args := #[.func (.yield (w.heap.size + 1)) #[] #[]] }, W1, 56,
    #[.func (.yield (w.heap.size + 1)) #[] #[]] ++ #[.pointer (some ⟨Bx, 0, none⟩)], W1, ?_, ?_, ?_, ?_, fun _ => by omega, ?_⟩
  · rw [← hW1, hrec]; exact run_enterLoop_outer _ _ _ _ _
  · simp only [resolve, hg]
    simp [go_sem]
  · intro f' _; trivial
  · have eg := enters_of Tryz.func56 (by kernel_rfl) rfl
    simp [invoke, go_sem, eg]
  · refine (lines1_in (n - 1) (by omega) (w.heap.size + 1) Bx t0
      (fun t W => I t W ∧ W.heap[w.heap.size + 1]? = some (.loop (rec .ready none)) ∧ W.heap[w.heap.size]? = some (.deferred (some [])))
      (fun W => Ix W ∧ W.heap[w.heap.size + 1]? = some (.loop (rec .done (some .ret))) ∧ W.heap[w.heap.size]? = some (.deferred (some [])))
      hlen ?_ W1 ((e1 Bx hB).trans hbx) ⟨hI1, hL1, hK1⟩).mono ?_
    · rintro t W Wx hne htl ⟨hi, hl, hk⟩ hb2 hT hbn
      have hi := hIB t W Wx hi hT
      have hl := (hT.block (w.heap.size + 1) (heap_lt hl) (fun e => by have : w.heap.size + 1 = Bx := e; omega)).trans hl
      have hk := (hT.block w.heap.size (heap_lt hk) (fun e => by have : w.heap.size = Bx := e; omega)).trans hk
      have hlt : w.heap.size + 1 < Wx.heap.size := heap_lt hl
      have hy := run_yield (P := Tryz.prog) (args := #[.string (BT (nextL t).1)]) hl (by rw [hrec]; rfl)
      rw [hrec] at hy
      refine ⟨fn, _, assign, body, hy, roundIn_of_wpIn hfn (hassign _ (BT (nextL t).1) Wx _ ⟨_, run_beginRound hl (by rw [hrec]), ?_⟩)⟩
      have hl2 : (Wx.putObj (w.heap.size + 1) (.loop { rec .ready none with state := .busy })).heap[w.heap.size + 1]? = some (.loop { rec .ready none with state := .busy }) := World.putObj_heap_same hlt
      have hot : ∀ i, i ≠ w.heap.size + 1 → (Wx.putObj (w.heap.size + 1) (.loop { rec .ready none with state := .busy })).heap[i]? = Wx.heap[i]? := fun i hi => World.putObj_heap_other (by omega)
      refine wpIn_mono (hbody _ t _ hne htl (hI.putObj _ hi (by omega) hl rfl) ((hot Bx (by omega)).trans hbn)) ?_
      rintro e a3 W3 hp
      cases e with
      | normal =>
        obtain ⟨hk3, hkp3, hi3⟩ := hp
        have hl3 := hk3.same _ _ hl2 rfl
        have hr := run_endRound (P := Tryz.prog) none hl3
        have ho3 : ∀ i o, i ≠ w.heap.size + 1 → (W3.putObj (w.heap.size + 1) o).heap[i]? = W3.heap[i]? := fun i o hi => World.putObj_heap_other (by omega)
        rw [hrec] at hr
        refine ⟨_, _, hr, .inl ⟨rfl, ⟨hI.putObj _ hi3 (by omega) hl3 rfl, ?_, ?_⟩, ?_⟩⟩
        · rw [hrec]; exact World.putObj_heap_same (heap_lt hl3)
        · exact (ho3 _ _ (by omega)).trans (hk3.same _ _ ((hot _ (by omega)).trans hk) rfl)
        · exact (ho3 _ _ (by omega)).trans (hkp3.trans ((hot Bx (by omega)).trans hbn))
      | ret =>
        obtain ⟨hk3, hi3⟩ := hp
        have hl3 := hk3.same _ _ hl2 rfl
        have hr := run_endRound (P := Tryz.prog) (some .ret) hl3
        have ho3 : ∀ i o, i ≠ w.heap.size + 1 → (W3.putObj (w.heap.size + 1) o).heap[i]? = W3.heap[i]? := fun i o hi => World.putObj_heap_other (by omega)
        rw [hrec] at hr
        refine ⟨_, _, hr, .inr ⟨rfl, hIx.putObj (s := ()) _ hi3 (by omega) hl3 rfl, ?_, ?_⟩⟩
        · rw [hrec]; exact World.putObj_heap_same (heap_lt hl3)
        · exact (ho3 _ _ (by omega)).trans (hk3.same _ _ ((hot _ (by omega)).trans hk) rfl)
      | exit id => exact hp.elim
      | goto t => exact hp.elim
      | panic ch => exact hp.elim
      | outgrown => exact hp.elim
    · rintro e W2 ⟨⟨v, rfl⟩, (⟨W3, ⟨hi, hl, hk⟩, _, rfl⟩ | ⟨hi, hl, hk⟩)⟩
      · exact ⟨none, _, by have := run_endLoop (P := Tryz.prog) hl (by rw [hrec]; simp); rw [hrec] at this; exact this, hdone _ _ (Nat.le_refl _) (hI.putObj _ hi (by omega) hl rfl) ((World.putObj_heap_other (by omega)).trans hk)⟩
      · exact ⟨some .ret, _, by have := run_endLoop (P := Tryz.prog) hl (by rw [hrec]; simp); rw [hrec] at this; exact this, hstop _ _ (Nat.le_refl _) (hIx.putObj (s := ()) _ hi (by omega) hl rfl) ((World.putObj_heap_other (by omega)).trans hk)⟩
end Go.Proofs.YtjnllclpdllceaaGreatDoor
