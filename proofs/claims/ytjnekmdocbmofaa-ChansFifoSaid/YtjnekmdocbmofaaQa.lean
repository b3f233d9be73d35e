/- Contracts of the queue's functions: exploration. -/
import Derived.Test.YtjnekmdocbmofaaProg
import Derived.WalkKit
import Derived.WalkSpells
import Derived.WalkLawsBesides
import Derived.Deep.QuietTactic
import Derived.BigQuiet
import Derived.StillTailTactics
import Derived.KernelRfl
import Derived.Lib.Hide
namespace Go.Proofs.Ytjnekmdocbmofaa
set_option linter.unusedSimpArgs false
set_option linter.unusedVariables false
open Go.RowKit

/-- w' is w but for blocks of S and what is new. -/
structure Turn (S : Nat → Prop) (w w' : World) : Prop where
  os : w'.os = w.os
  tape : w'.tape = w.tape
  output : w'.output = w.output
  size : w.heap.size ≤ w'.heap.size
  block : ∀ k, k < w.heap.size → ¬ S k → w'.heap[k]? = w.heap[k]?

def Nn (_ : Nat) : Prop := False

theorem Turn.refl (S : Nat → Prop) (w : World) : Turn S w w := ⟨rfl, rfl, rfl, Nat.le_refl _, fun _ _ _ => rfl⟩
theorem Turn.trans {S : Nat → Prop} {a b c : World} (h : Turn S a b) (k : Turn S b c) : Turn S a c :=
  ⟨k.os.trans h.os, k.tape.trans h.tape, k.output.trans h.output, Nat.le_trans h.size k.size, fun i hi hs => (k.block i (Nat.lt_of_lt_of_le hi h.size) hs).trans (h.block i hi hs)⟩
theorem Turn.mono {S T : Nat → Prop} {a b : World} (h : Turn S a b) (hs : ∀ k, S k → T k) : Turn T a b :=
  ⟨h.os, h.tape, h.output, h.size, fun i hi hn => h.block i hi (fun hk => hn (hs i hk))⟩
theorem Turn.drewN {S : Nat → Prop} {a w : World} (h : Turn S a w) (n : Nat) : Turn S a (w.drewN n) := h.trans ⟨rfl, rfl, rfl, Nat.le_refl _, fun _ _ _ => rfl⟩
theorem Turn.drew {S : Nat → Prop} {a w : World} (h : Turn S a w) : Turn S a w.drew := h.trans ⟨rfl, rfl, rfl, Nat.le_refl _, fun _ _ _ => rfl⟩
theorem Turn.alloc {S : Nat → Prop} {a w : World} (h : Turn S a w) (o : Obj) : Turn S a (w.alloc o) :=
  h.trans ⟨rfl, rfl, rfl, by simp, fun k hk _ => Below.heap_alloc _ _ _ hk⟩
theorem Turn.setCell {S : Nat → Prop} {a w : World} (h : Turn S a w) {p : Addr} (hp : S p.block ∨ a.heap.size ≤ p.block) (u : Value) : Turn S a (w.setCell p u) :=
  ⟨h.os, h.tape, h.output, by simp [World.setCell]; exact h.size, fun k hk hs => by
    rw [Below.heap_setCell _ _ _ _ (by rintro rfl; rcases hp with hp | hp; exact hs hp; omega)]; exact h.block k hk hs⟩

/-- The queue's cells. -/
def qcells (r : List Int) (f n m : Nat) : Array Value := ((r.map (Value.int .i64)) ++ [Value.int .i64 f, Value.int .i64 n, Value.int .i64 m]).toArray

structure QAt (w : World) (b : Nat) (r : List Int) (f n m : Nat) : Prop where
  len : r.length = 16
  blk : w.heap[b]? = some (.cells (qcells r f n m) 68)
  m1 : 1 ≤ m
  m16 : m ≤ 16
  fm : f < m
  nm : n ≤ m

theorem QAt.f {w b r f n m} (h : QAt w b r f n m) : w.cell? ⟨b, 16, none⟩ = some (.int .i64 f) := by
  simp [World.cell?, h.blk, qcells, h.len]
theorem QAt.n {w b r f n m} (h : QAt w b r f n m) : w.cell? ⟨b, 17, none⟩ = some (.int .i64 n) := by
  simp [World.cell?, h.blk, qcells, h.len]
theorem QAt.m {w b r f n m} (h : QAt w b r f n m) : w.cell? ⟨b, 18, none⟩ = some (.int .i64 m) := by
  simp [World.cell?, h.blk, qcells, h.len]
theorem QAt.i {w b r f n m} (h : QAt w b r f n m) (i : Nat) (hi : i < 16) : w.cell? ⟨b, i, none⟩ = some (.int .i64 (r[i]?.getD 0)) := by
  have := h.len
  simp [World.cell?, h.blk, qcells, List.getElem?_append, show i < r.length by omega]
theorem QAt.fz {w b r f n m} (h : QAt w b r f n m) (i : Nat) : w.frozen? ⟨b, i, none⟩ = false := by
  simp [World.frozen?, h.blk]
theorem QAt.lt {w b r f n m} (h : QAt w b r f n m) : b < w.heap.size := World.block_lt_of_cell? w ⟨b, 16, none⟩ h.f
theorem QAt.drewN {w b r f n m} (h : QAt w b r f n m) (k : Nat) : QAt (w.drewN k) b r f n m := ⟨h.len, h.blk, h.m1, h.m16, h.fm, h.nm⟩

theorem heap_setCell_at {w : World} {b : Nat} {c : Array Value} {t : TypeId} (h : w.heap[b]? = some (.cells c t)) (i : Nat) (v : Value) :
    (w.setCell ⟨b, i, none⟩ v).heap[b]? = some (.cells (c.setIfInBounds i v) t) := by
  simp [World.setCell, Array.getElem?_modify, h]
theorem QAt.set {w b r f n m} (h : QAt w b r f n m) (i : Nat) (hi : i < 16) (x : Int) : QAt (w.setCell ⟨b, i, none⟩ (.int .i64 x)) b (r.set i x) f n m :=
  ⟨by simp [h.len], by
    rw [heap_setCell_at h.blk]; simp only [qcells, List.setIfInBounds_toArray]
    rw [List.set_append_left _ _ (by simp [h.len, hi]), List.map_set], h.m1, h.m16, h.fm, h.nm⟩
theorem QAt.setf {w b r f n m} (h : QAt w b r f n m) (f' : Nat) (hf : f' < m) : QAt (w.setCell ⟨b, 16, none⟩ (.int .i64 f')) b r f' n m :=
  ⟨h.len, by
    rw [heap_setCell_at h.blk]; simp only [qcells, List.setIfInBounds_toArray]
    rw [List.set_append_right _ _ (by simp [h.len])]; simp [h.len], h.m1, h.m16, hf, h.nm⟩
theorem QAt.setn {w b r f n m} (h : QAt w b r f n m) (n' : Nat) (hn : n' ≤ m) : QAt (w.setCell ⟨b, 17, none⟩ (.int .i64 n')) b r f n' m :=
  ⟨h.len, by
    rw [heap_setCell_at h.blk]; simp only [qcells, List.setIfInBounds_toArray]
    rw [List.set_append_right _ _ (by simp [h.len])]; simp [h.len], h.m1, h.m16, h.fm, hn⟩

set_option maxHeartbeats 400000 in
theorem full_any {w b r f n m} (h : QAt w b r f n m) :
    Calls Try.prog 19 #[.pointer (some ⟨b, 0, none⟩)] w fun e w' => e = .returned (.bool ((n : Int) == m)) ∧ ∃ k, w' = w.drewN k := by
  have h1 := h.n
  have h2 := h.m
  go_enter Try.func19, Try.ntmps19
  go_wp2
  go_quiet (fail)
  go_wp2
  go_ret
  exact ⟨rfl, _, rfl⟩

set_option maxHeartbeats 400000 in
theorem len_any {w b r f n m} (h : QAt w b r f n m) :
    Calls Try.prog 18 #[.pointer (some ⟨b, 0, none⟩)] w fun e w' => e = .returned (.int .i64 n) ∧ ∃ k, w' = w.drewN k := by
  have h1 := h.n
  go_enter Try.func18, Try.ntmps18
  go_wp2
  go_ret
  exact ⟨rfl, 0, rfl⟩

set_option maxHeartbeats 400000 in
theorem place_any {w b r f n m} (h : QAt w b r f n m) (i : Int) (j p : Nat) (hi : i = j) (hj : j ≤ 16) (hp : (f + j) % m = p) :
    Calls Try.prog 42 #[.pointer (some ⟨b, 0, none⟩), .int .i64 i] w fun e w' => e = .returned (.int .i64 p) ∧ ∃ k, w' = w.drewN k := by
  subst hi
  have HP := Lib.hid hp
  clear hp
  have h1 := h.f
  have h2 := h.m
  have h3 := h.m1
  have h4 := h.m16
  have h5 := h.fm
  go_enter Try.func42, Try.ntmps42
  go_wp2
  go_quiet (fail)
  go_wp2
  have e1 : ((f : Int) + j) % m = (p : Int) := by rw [← HP.out]; push_cast; rfl
  rw [e1]
  go_ret
  exact ⟨rfl, _, rfl⟩
end Go.Proofs.Ytjnekmdocbmofaa
