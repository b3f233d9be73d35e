/- A turn that may be, at whatever kind; what is laid; what is read as a number. -/
import Derived.Test.YtjnllclpdllceaaGreatDoorSe
import Derived.Test.YtjnllclpdllceaaGreatDoorSb
import Derived.Lib.AtoiAllCases
import Derived.Lib.AtoiErrMem
namespace Go.Proofs.YtjnllclpdllceaaGreatDoor
set_option linter.unusedSimpArgs false
set_option linter.unusedVariables false
open Go.RowKit Go.Shelf

theorem turn_any (k a b : Int) (w : World) :
    Calls Tryz.prog 20 #[.agg #[.int .i64 k, .int .i64 a, .int .i64 b]] w fun e w' => e = .returned (.bool (turnOk ⟨k, a, b⟩)) ∧ Turn Nn w w' := by
  by_cases h : k < 0 ∨ 3 < k
  · have e : turnOk ⟨k, a, b⟩ = false := by
      unfold turnOk
      simp only [Bool.or_eq_false_iff, decide_eq_false_iff_not]
      omega
    rw [e]; exact turn_bad k a b w h
  · obtain rfl | rfl | rfl | rfl : k = 0 ∨ k = 1 ∨ k = 2 ∨ k = 3 := by omega
    · have e : turnOk ⟨0, a, b⟩ = (decide (0 ≤ a) && decide (a ≤ 99) && decide (1 ≤ b) && decide (b ≤ 1000)) := by
        unfold turnOk; rw [Bool.eq_iff_iff]; simp; omega
      rw [e]; exact turn_pick a b w
    · have e : turnOk ⟨1, a, b⟩ = (decide (a = 0) && decide (1 ≤ b) && decide (b ≤ 1000)) := by
        unfold turnOk; rw [Bool.eq_iff_iff]; simp; omega
      rw [e]; exact turn_round a b w
    · have e : turnOk ⟨2, a, b⟩ = (decide (a = 0) && decide (b = 0)) := by
        unfold turnOk; rw [Bool.eq_iff_iff]; simp
      rw [e]; exact turn_show a b w
    · have e : turnOk ⟨3, a, b⟩ = (decide (a = 0) && decide (b = 0)) := by
        unfold turnOk; rw [Bool.eq_iff_iff]; simp
      rw [e]; exact turn_rows a b w

theorem Turn.below {w w' : World} (t : Turn Nn w w') : Below w.heap.size w w' := ⟨t.os, t.tape, t.output, t.size, fun k hk => t.block k hk (fun h => h)⟩
theorem Turn.of_below {w w' : World} (t : Below w.heap.size w w') : Turn Nn w w' := ⟨t.os, t.tape, t.output, t.size, fun k hk _ => t.block k hk⟩

theorem var_turn {P : Program} {w w' : World} {n : String} {cs : Array Value} (t : Turn Nn w w') (h : w.var? P n = some cs) : w'.var? P n = some cs := by
  unfold World.var? at h ⊢
  cases hg : P.globalNamed n with
  | none => rw [hg] at h; cases h
  | some g =>
    rw [hg] at h
    simp only [Option.bind_some] at h ⊢
    cases hb : w.heap[g]? with
    | none => rw [hb] at h; cases h
    | some o => rw [t.block g (heap_lt hb) (fun h => h), hb]; rw [hb] at h; exact h

theorem cell_turn {w w' : World} (t : Turn Nn w w') {a : Addr} {v : Value} (h : w.cell? a = some v) : w'.cell? a = some v := by
  have hl := World.block_lt_of_cell? w a h
  unfold World.cell? at h ⊢
  rw [t.block a.block hl (fun h => h)]; exact h

theorem Turn.grow {S : Nat → Prop} {a w : World} (h : Turn S a w) (os : Array Obj) : Turn S a (Sort.grow w os) :=
  h.trans ⟨rfl, rfl, rfl, by simp [Sort.grow], fun k hk _ => by simp [Sort.grow, Array.getElem?_append, hk]⟩

/-- What is laid. -/
structure Laid (w : World) : Prop where
  pow : Lib.TabIs Tryz.prog w "internal/strconv.uint64pow10" .u64 Lib.pow10Tab
  syn : ∃ te pe, w.cell? ⟨5, 0, none⟩ = some (.iface te pe)
  rng : ∃ te pe, w.cell? ⟨6, 0, none⟩ = some (.iface te pe)

theorem Laid.turn {w w' : World} (h : Laid w) (t : Turn Nn w w') : Laid w' :=
  ⟨var_turn t h.pow, let ⟨a, b, c⟩ := h.syn; ⟨a, b, cell_turn t c⟩, let ⟨a, b, c⟩ := h.rng; ⟨a, b, cell_turn t c⟩⟩

set_option maxHeartbeats 1000000 in
theorem number_any (s : ByteArray) (hs : s.size ≤ 281474976710656) (w : World) (hl : Laid w) :
    Calls Tryz.prog 74 #[.string s] w fun e w' => ∃ v : Int, e = .returned (.tuple #[.int .i64 v, .bool (numL s.data.toList).isSome]) ∧ (∀ n, numL s.data.toList = some n → v = n) ∧ Turn Nn w w' := by
  cases ha : Lib.atoiAll s.data.toList with
  | ok v =>
    have hc := Tryz.strconv_Atoi_ok s (by omega) v ha w
    have HC := Lib.hid hc
    clear hc
    go_enter Tryz.func74, Tryz.ntmps74
    go_wp2_with fail
    refine HC.out.mono ?_
    rintro e w1 ⟨rfl, hw⟩
    have ht : Turn Nn w w1 := by
      rcases hw with rfl | ⟨t, rfl⟩
      · exact Turn.refl _ _
      · exact Turn.of_below (Lib.bytesWorld_below _ _ _)
    have hn : numL s.data.toList = if 0 ≤ v ∧ s.data.toList.length ≤ 9 ∧ Lib.itoa v = s.data.toList then some v.toNat else none := by
      unfold numL; rw [ha]
    have hsz : s.data.toList.length = s.size := by rw [Array.length_toList]; rfl
    rw [hsz] at hn
    by_cases h1 : 0 ≤ v
    · by_cases h2 : (s.size : Int) ≤ 9
      · have hb := Lib.atoiAll_bounds ha
        have hi := Tryz.strconv_Itoa v hb.1 hb.2 w1 (hl.turn ht).pow
        have HI := Lib.hid hi
        have HN := Lib.hid hn
        have HT := Lib.hid ht
        clear hi hn ht hw hl HC hsz ha hb
        go_wp2_with fail
        refine HI.out.mono ?_
        rintro e w2 ⟨rfl, k, os, rfl⟩
        go_wp2
        go_ret2
        have hr : (numL s.data.toList).isSome = (Lib.itoa v == s.toList) := by
          rw [HN.out, Lib.toList_data]
          by_cases he : Lib.itoa v = s.data.toList
          · rw [if_pos ⟨h1, by omega, he⟩, he]; simp
          · rw [if_neg (by rintro ⟨_, _, h⟩; exact he h)]
            have : (Lib.itoa v == s.data.toList) = false := by rw [beq_eq_false_iff_ne]; exact he
            rw [this]; rfl
        rw [hr]
        refine ⟨v, rfl, fun n h => ?_, (HT.out.drewN k).grow os⟩
        rw [HN.out] at h
        split at h
        · simp only [Option.some.injEq] at h; omega
        · cases h
      · have HN := Lib.hid hn
        have HT := Lib.hid ht
        clear hn ht hw hl HC hsz ha
        go_wp2
        go_ret2
        have hnn : numL s.data.toList = none := by rw [HN.out, if_neg (by omega)]
        rw [hnn]
        exact ⟨v, rfl, fun _ h => by (cases h), HT.out⟩
    · have HN := Lib.hid hn
      have HT := Lib.hid ht
      clear hn ht hw hl HC hsz ha
      go_wp2
      go_ret2
      have hnn : numL s.data.toList = none := by rw [HN.out, if_neg (by omega)]
      rw [hnn]
      exact ⟨v, rfl, fun _ h => by (cases h), HT.out⟩
  | range =>
    obtain ⟨te, pe, hv⟩ := hl.rng
    have hn : numL s.data.toList = none := by unfold numL; rw [ha]
    rw [hn]
    have hc := Tryz.strconv_Atoi_range s hs ha _ w hv (.inr ⟨te, pe, rfl⟩)
    have HC := Lib.hid hc
    clear hc
    go_enter Tryz.func74, Tryz.ntmps74
    go_wp2_with fail
    refine HC.out.mono ?_
    rintro e w' ⟨N, rfl, hN, _, hb⟩
    go_wp2
    go_ret2
    exact ⟨_, rfl, fun _ h => by (cases h), Turn.of_below hb⟩
  | _ =>
    obtain ⟨te, pe, hv⟩ := hl.syn
    have hn : numL s.data.toList = none := by unfold numL; rw [ha]
    rw [hn]
    have hc := Tryz.strconv_Atoi_other s hs (fun v h => by rw [ha] at h; cases h) (fun h => by rw [ha] at h; cases h) _ w hv (.inr ⟨te, pe, rfl⟩)
    have HC := Lib.hid hc
    clear hc
    go_enter Tryz.func74, Tryz.ntmps74
    go_wp2_with fail
    refine HC.out.mono ?_
    rintro e w' ⟨N, rfl, hN, _, hb⟩
    go_wp2
    go_ret2
    exact ⟨0, rfl, fun _ h => by (cases h), Turn.of_below hb⟩
end Go.Proofs.YtjnllclpdllceaaGreatDoor
