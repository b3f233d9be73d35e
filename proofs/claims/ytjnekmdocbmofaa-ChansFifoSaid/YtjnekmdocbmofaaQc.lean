/- Contracts of the queue's functions: exploration: List. -/
import Derived.Test.YtjnekmdocbmofaaQb
import Derived.RangeFuncNested
import Derived.RangeFuncBound
import Derived.RangeFuncCalls
import Derived.RangeFuncLeaves
import Derived.RangeFuncFrom
import Derived.Shelf.Abstract
import Derived.Shelf.RegionOpen
import Derived.OwnWalkIn
import Derived.TacticsInMore
import Derived.LoopNIn
import Derived.LoopIn
import Derived.Stop.RegionWithIn
import Derived.Sort.QuietIn
namespace Go.Proofs.Ytjnekmdocbmofaa
set_option linter.unusedSimpArgs false
set_option linter.unusedVariables false
open Go.RowKit Go.Shelf
attribute [local go_sem] Oper.semAt_some

/-- The two pieces of the ring: where each begins, and how many words stand in it. -/
def rowOff (f : Nat) : Bool → Nat | false => f | true => 0
def rowLen (f n m : Nat) : Bool → Nat | false => min (f + n) m - f | true => f + n - min (f + n) m
def rowEnc (b f n m : Nat) (x : Bool) : Array Value := #[.slice (some ⟨b, rowOff f x, none⟩) (rowLen f n m x) (16 - rowOff f x)]

theorem under66 : Try.prog.underlying 66 = some (.array 16 2) := by kernel_rfl
theorem info2 : (Try.prog.info? 2).map (·.size) = some 1 := by kernel_rfl

theorem run_sliceAt_ring (w : World) (b lo hi : Nat) (z : Int) (hz : z = hi) (h1 : lo ≤ hi) (h2 : hi ≤ 16) (h3 : lo < 16) :
    (Instr.sliceAt 66 (.pointer (some ⟨b, 0, none⟩)) (some (.int .i64 lo)) (some (.int .i64 z)) none).run Try.prog w = .ok (.slice (some ⟨b, lo, none⟩) (hi - lo) (16 - lo)) w := by
  have h8 := info2
  subst hz
  cases hq : Try.prog.info? 2 with
  | none => simp [hq] at h8
  | some i =>
    have hi' : i.size = 1 := by simpa [hq] using h8
    have e : ¬ (16 = lo) := by omega
    have e2 : (hi : Int) ≤ 16 := by omega
    by_cases hl : lo = 0
    · subst hl
      simp [Instr.sliceAt, run_underlying under66, go_sem, sizeOf, typeInfo, hq, e2]
    · simp [Instr.sliceAt, run_underlying under66, go_sem, sizeOf, typeInfo, hq, hi', e, e2, h1, hl]

theorem run_sliceAt_ring0 (w : World) (b hi : Nat) (z : Int) (hz : z = hi) (h2 : hi ≤ 16) :
    (Instr.sliceAt 66 (.pointer (some ⟨b, 0, none⟩)) none (some (.int .i64 z)) none).run Try.prog w = .ok (.slice (some ⟨b, 0, none⟩) hi 16) w := by
  have h8 := info2
  subst hz
  cases hq : Try.prog.info? 2 with
  | none => simp [hq] at h8
  | some i =>
    have hi' : i.size = 1 := by simpa [hq] using h8
    have e2 : (hi : Int) ≤ 16 := by omega
    simp [Instr.sliceAt, run_underlying under66, go_sem, sizeOf, typeInfo, hq, e2]

def Kpq (b Bx : Nat) (W W' : World) : Prop := W'.heap[b]? = W.heap[b]? ∧ W'.heap[Bx]? = W.heap[Bx]?

set_option maxHeartbeats 1000000 in
theorem rows_any (n : Nat) (p : Value) (w : World) (hp : ∃ a, p = .pointer a) :
    CallsIn Fence.wide n Try.prog 43 #[p] w fun e w' => e = .returned (.func (.func 59) #[] #[.pointer (some ⟨w.heap.size, 0, none⟩)]) ∧ w.alloc (.cells #[p] 23) = w' := by
  obtain ⟨a, rfl⟩ := hp
  refine callsIn_of_wp Try.func43 rfl trivial ?_ rfl
  simp only [Try.ntmps43, List.size_toArray, List.length_cons, List.length_nil, Nat.reduceAdd, Nat.reduceSub, Array.replicate_succ, Array.replicate_zero, List.push_toArray, List.append_toArray, List.nil_append, List.cons_append]
  gi_wp2
  go_ret
  exact ⟨rfl, rfl⟩

theorem QAt.eqb {W W' b r f n m} (h : QAt W b r f n m) (e : W'.heap[b]? = W.heap[b]?) : QAt W' b r f n m := ⟨h.len, e.trans h.blk, h.m1, h.m16, h.fm, h.nm⟩

end Go.Proofs.Ytjnekmdocbmofaa
