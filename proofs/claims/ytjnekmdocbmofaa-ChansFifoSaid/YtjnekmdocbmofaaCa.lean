/- The table of channels: what stands in memory; New, Index. -/
import Derived.Test.YtjnekmdocbmofaaQj
import Derived.Test.YtjnekmdocbmofaaQd
namespace Go.Proofs.Ytjnekmdocbmofaa
set_option linter.unusedSimpArgs false
set_option linter.unusedVariables false
open Go.RowKit Go.Shelf

/-- A channel: its queues stand at base and base + 1, itself at base + 2. -/
structure Ch where
  base : Nat
  o0 : Bool
  o1 : Bool
  l0 : List Int
  l1 : List Int

def chPtr : Option Ch → Value
  | none => .pointer none
  | some c => .pointer (some ⟨c.base + 2, 0, none⟩)

def chVals (cs : List (Option Ch)) : Array Value := (cs.map chPtr).toArray

/-- At base, base + 1, base + 2 stands the channel. -/
def ChIs (w : World) (m : Nat) (c : Ch) : Prop :=
  w.heap[c.base + 2]? = some (.cells #[.bool c.o0, .bool c.o1, .pointer (some ⟨c.base, 0, none⟩), .pointer (some ⟨c.base + 1, 0, none⟩)] 82) ∧ QIs w c.base c.l0 m ∧ QIs w (c.base + 1) c.l1 m

/-- The table at tb, its slots at sb. -/
structure TabIs (w : World) (tb sb n m : Nat) (cs : List (Option Ch)) : Prop where
  tab : w.heap[tb]? = some (.cells #[.slice (some ⟨sb, 0, none⟩) n n, .int .i64 m] 76)
  slots : w.heap[sb]? = some (.cells (chVals cs) 78)
  len : cs.length = n
  n64 : n ≤ 64
  m1 : 1 ≤ m
  m16 : m ≤ 16
  ts : sb < tb
  ch : ∀ c, some c ∈ cs → ChIs w m c ∧ tb < c.base
  apart : ∀ (i j : Nat) (c d : Ch), cs[i]? = some (some c) → cs[j]? = some (some d) → i ≠ j → c.base + 2 < d.base ∨ d.base + 2 < c.base

set_option maxHeartbeats 1000000 in
theorem within_any (n l : Int) (w : World) :
    Calls Try.prog 44 #[.int .i64 n, .int .i64 l] w fun e w' => e = .returned (.bool (decide (0 < n) && decide (n ≤ l))) ∧ w = w' := by
  by_cases h : 0 < n
  · go_enter Try.func44, Try.ntmps44
    go_wp2
    go_ret
    exact ⟨by simp; omega, rfl⟩
  · go_enter Try.func44, Try.ntmps44
    go_wp2
    go_ret
    exact ⟨by simp; omega, rfl⟩

set_option maxHeartbeats 1000000 in
theorem chNew_bad (s m : Int) (w : World) (h : s ≤ 0 ∨ 64 < s ∨ m ≤ 0 ∨ 16 < m) :
    Calls Try.prog 24 #[.int .i64 s, .int .i64 m] w fun e w' => e = .returned (.pointer none) ∧ w = w' := by
  by_cases hs : s ≤ 0 ∨ 64 < s
  · have hb : (decide (0 < s) && decide (s ≤ 64)) = false := by rcases hs with hs | hs <;> simp <;> omega
    have hc := within_any s 64 w
    rw [hb] at hc
    have HC := Lib.hid hc
    clear hc hb
    go_enter Try.func24, Try.ntmps24
    go_wp2_with fail
    refine HC.out.mono ?_
    rintro e w' ⟨rfl, rfl⟩
    go_wp2_with fail
    go_ret
    exact ⟨rfl, rfl⟩
  · have hb : (decide (0 < s) && decide (s ≤ 64)) = true := by simp; omega
    have hb2 : (decide (0 < m) && decide (m ≤ 16)) = false := by
      have : m ≤ 0 ∨ 16 < m := by omega
      rcases this with hs | hs <;> simp <;> omega
    have hc := within_any s 64 w
    have hd := within_any m 16 w
    rw [hb] at hc
    rw [hb2] at hd
    have HC := Lib.hid hc
    have HD := Lib.hid hd
    clear hc hb hd hb2
    go_enter Try.func24, Try.ntmps24
    go_wp2_with fail
    refine HC.out.mono ?_
    rintro e w' ⟨rfl, rfl⟩
    go_wp2_with fail
    refine HD.out.mono ?_
    rintro e w' ⟨rfl, rfl⟩
    go_wp2_with fail
    go_ret
    exact ⟨rfl, rfl⟩

theorem under74 : Try.prog.underlying 74 = some (.slice 78) := by kernel_rfl
theorem info78 : (Try.prog.info? 78).map (fun i => (i.zero, i.size, i.bytes)) = some (some (.pointer none), 1, 8) := by kernel_rfl

theorem nils_eq (n : Nat) : madeCells #[Value.pointer none] n = chVals (List.replicate n none) := by
  unfold chVals madeCells
  apply Array.ext
  · simp
  · intro i h1 h2
    simp [Nat.mod_one, chPtr]

set_option maxHeartbeats 1000000 in
theorem chNew_ok (n m : Nat) (w : World) (h1 : 1 ≤ n) (h2 : n ≤ 64) (h3 : 1 ≤ m) (h4 : m ≤ 16) :
    Calls Try.prog 24 #[.int .i64 n, .int .i64 m] w fun e w' => e = .returned (.pointer (some ⟨w.heap.size + 1, 0, none⟩)) ∧ TabIs w' (w.heap.size + 1) w.heap.size n m (List.replicate n none) ∧ Turn Nn w w' := by
  have hb : (decide ((0 : Int) < n) && decide ((n : Int) ≤ 64)) = true := by simp; omega
  have hb2 : (decide ((0 : Int) < m) && decide ((m : Int) ≤ 16)) = true := by simp; omega
  have hc := within_any n 64 w
  have hd := within_any m 16 w
  rw [hb] at hc
  rw [hb2] at hd
  have HC := Lib.hid hc
  have HD := Lib.hid hd
  have hmk : ∀ w, (Instr.makeSlice 74 (.int .i64 n) (.int .i64 n)).run Try.prog w = .ok (.slice (some ⟨w.heap.size, 0, none⟩) n n) (w.alloc (.cells (chVals (List.replicate n none)) 78)) := fun w => by
    rw [← nils_eq]; exact run_make_row' 74 78 (.pointer none) 8 under74 info78 rfl .i64 .i64 n (by omega) (by omega) w
  clear hc hb hd hb2
  go_enter Try.func24, Try.ntmps24
  go_wp2_with fail
  refine HC.out.mono ?_
  rintro e w' ⟨rfl, rfl⟩
  go_wp2_with fail
  refine HD.out.mono ?_
  rintro e w' ⟨rfl, rfl⟩
  go_wp2_with fail
  go_ret
  refine ⟨rfl, ⟨World.alloc_heap_new (w.alloc _) _ |> (by simpa using ·), ?_, by simp, h2, h3, h4, by omega, fun c hc => ?_, fun i j c d hi => ?_⟩, ((Turn.refl _ _).alloc _).alloc _⟩
  · exact (Below.heap_alloc _ _ _ (by simp)).trans (World.alloc_heap_new w _)
  · simp at hc
  · simp [List.getElem?_replicate] at hi

/-- The place of the first free slot. -/
def free (cs : List (Option Ch)) : Option Nat := cs.findIdx? Option.isNone

/-- What slices.Index answers. -/
def idxOf (cs : List (Option Ch)) : Int := match free cs with | some i => (i : Int) | none => -1

theorem free_some {cs : List (Option Ch)} {k} (h : k < cs.length) (hk : cs[k]? = some none) (hb : ∀ i < k, ∃ c, cs[i]? = some (some c)) : free cs = some k := by
  unfold free
  rw [List.findIdx?_eq_some_iff_getElem]
  refine ⟨h, ?_, fun j hj => ?_⟩
  · rw [List.getElem?_eq_getElem h] at hk
    simp only [Option.some.injEq] at hk
    rw [hk]; rfl
  · obtain ⟨c, hc⟩ := hb j hj
    rw [List.getElem?_eq_getElem (by omega)] at hc
    simp only [Option.some.injEq] at hc
    rw [hc]; simp

theorem free_none {cs : List (Option Ch)} (hb : ∀ i < cs.length, ∃ c, cs[i]? = some (some c)) : free cs = none := by
  unfold free
  rw [List.findIdx?_eq_none_iff]
  intro x hx
  obtain ⟨i, hi, rfl⟩ := List.getElem_of_mem hx
  obtain ⟨c, hc⟩ := hb i hi
  rw [List.getElem?_eq_getElem hi] at hc
  simp only [Option.some.injEq] at hc
  rw [hc]; simp

set_option maxHeartbeats 1000000 in
theorem index_any {w : World} {sb n : Nat} {cs : List (Option Ch)} (hs : w.heap[sb]? = some (.cells (chVals cs) 78)) (hn : cs.length = n) (h64 : n ≤ 64) :
    Calls Try.prog 45 #[.slice (some ⟨sb, 0, none⟩) n n, .pointer none] w fun e w' => e = .returned (.int .i64 (idxOf cs)) ∧ w = w' := by
  have hc : ∀ i (h : i < n), w.cell? ⟨sb, i, none⟩ = some (chPtr (cs[i]'(by omega))) := fun i h => by
    rw [cell_blk hs]; simp [chVals, hn, h]
  have HC := Lib.hid hc
  have HS := Lib.hid hs
  clear hc hs
  go_enter Try.func45, Try.ntmps45
  go_wp2
  go_loop [8] (fun i => ∃ k : Nat, k ≤ n ∧ i = .int .i64 k ∧ ∀ j < k, ∃ c, cs[j]? = some (some c)) (fun i => n - (intOf i).toNat)
  case atStart => exact ⟨0, Nat.zero_le _, rfl, fun j hj => absurd hj (Nat.not_lt_zero _)⟩
  case round =>
    obtain ⟨k, hk, rfl, hb⟩ := hrel
    have HB := Lib.hid hb
    clear hb
    by_cases hlt : k < n
    · have hk2 : (k : Int) < (n : Int) := by omega
      have hg := HC.out k hlt
      have hx : k < cs.length := by omega
      cases hck : cs[k]'hx with
      | none =>
        rw [hck] at hg
        have e : free cs = some k := free_some hx (by rw [List.getElem?_eq_getElem hx, hck]) HB.out
        have E : Hid (idxOf cs = k) := Lib.hid (by unfold idxOf; rw [e])
        simp only [chPtr] at hg
        clear hck e
        go_wp2
        go_ret
        exact ⟨by rw [E.out]; rfl, rfl⟩
      | some c =>
        rw [hck] at hg
        have HB2 : Hid (∀ j < k + 1, ∃ c, cs[j]? = some (some c)) := Lib.hid fun j hj => by
          by_cases h : j < k
          · exact HB.out j h
          · obtain rfl : j = k := by omega
            exact ⟨c, by rw [List.getElem?_eq_getElem hx, hck]⟩
        simp only [chPtr] at hg
        have hrun : ∀ w, Sem.run Try.prog (binOp .eql 78 (.pointer none) (.pointer (some ⟨c.base + 2, 0, none⟩))) w = .ok (.bool false) w := fun w => by
          rfl
        obtain ⟨p, hp⟩ : ∃ p : Option Addr, some ⟨c.base + 2, 0, none⟩ = p := ⟨_, rfl⟩
        rw [hp] at hg hrun
        clear hck hp
        go_wp2
        go_round
        case rel => exact ⟨k + 1, by omega, by go_num, HB2.out⟩
        case measure => simp [intOf]; omega
    · obtain rfl : k = n := by omega
      have e : free cs = none := free_none (by rw [hn]; exact HB.out)
      have E : Hid (idxOf cs = -1) := Lib.hid (by unfold idxOf; rw [e])
      clear e
      go_wp2
      go_ret
      exact ⟨by rw [E.out]; rfl, rfl⟩
end Go.Proofs.Ytjnekmdocbmofaa
