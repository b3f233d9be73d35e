/- The sides of a channel: out, in. -/
import Derived.Test.YtjnekmdocbmofaaCb
import Derived.Test.YtjnekmdocbmofaaQp
namespace Go.Proofs.Ytjnekmdocbmofaa
set_option linter.unusedSimpArgs false
set_option linter.unusedVariables false
open Go.RowKit Go.Shelf

/-- The value of a side: the channel's pointer and the end's number. -/
def sideV (p : Nat) (s : Bool) : Value := .agg #[.pointer (some ⟨p, 0, none⟩), .int .i64 (if s then 1 else 0)]

set_option maxHeartbeats 1000000 in
theorem out_any {w : World} {p q0 q1 : Nat} {x0 x1 : Value} (hc : w.heap[p]? = some (.cells #[x0, x1, .pointer (some ⟨q0, 0, none⟩), .pointer (some ⟨q1, 0, none⟩)] 82)) (s : Bool) :
    Calls Try.prog 50 #[sideV p s] w fun e w' => e = .returned (.pointer (some ⟨if s then q1 else q0, 0, none⟩)) ∧ Turn Nn w w' := by
  have h2 : ∀ o k, ((w.alloc o).drewN k).cell? ⟨p, 2, none⟩ = some (.pointer (some ⟨q0, 0, none⟩)) := fun o k => by
    rw [cell_blk (((Turn.refl Nn w).alloc o).drewN k |>.block p (heap_lt hc) (fun h => h) |>.trans hc)]; rfl
  have h3 : ∀ o k, ((w.alloc o).drewN k).cell? ⟨p, 3, none⟩ = some (.pointer (some ⟨q1, 0, none⟩)) := fun o k => by
    rw [cell_blk (((Turn.refl Nn w).alloc o).drewN k |>.block p (heap_lt hc) (fun h => h) |>.trans hc)]; rfl
  have h4 : ∀ o, (w.alloc o).cell? ⟨p, 2, none⟩ = some (.pointer (some ⟨q0, 0, none⟩)) := fun o => h2 o 0
  have h5 : ∀ o, (w.alloc o).cell? ⟨p, 3, none⟩ = some (.pointer (some ⟨q1, 0, none⟩)) := fun o => h3 o 0
  clear hc
  cases s
  all_goals
    simp only [sideV, if_true, if_false, Bool.false_eq_true]
    go_enter Try.func50, Try.ntmps50
    go_wp2
    go_quiet (fail)
    go_wp2
    go_ret
    exact ⟨rfl, ((Turn.refl _ _).alloc _).drewN _⟩
set_option maxHeartbeats 1000000 in
theorem in_any {w : World} {p q0 q1 : Nat} {x0 x1 : Value} (hc : w.heap[p]? = some (.cells #[x0, x1, .pointer (some ⟨q0, 0, none⟩), .pointer (some ⟨q1, 0, none⟩)] 82)) (s : Bool) :
    Calls Try.prog 55 #[sideV p s] w fun e w' => e = .returned (.pointer (some ⟨if s then q0 else q1, 0, none⟩)) ∧ Turn Nn w w' := by
  have h2 : ∀ o k, ((w.alloc o).drewN k).cell? ⟨p, 2, none⟩ = some (.pointer (some ⟨q0, 0, none⟩)) := fun o k => by
    rw [cell_blk (((Turn.refl Nn w).alloc o).drewN k |>.block p (heap_lt hc) (fun h => h) |>.trans hc)]; rfl
  have h3 : ∀ o k, ((w.alloc o).drewN k).cell? ⟨p, 3, none⟩ = some (.pointer (some ⟨q1, 0, none⟩)) := fun o k => by
    rw [cell_blk (((Turn.refl Nn w).alloc o).drewN k |>.block p (heap_lt hc) (fun h => h) |>.trans hc)]; rfl
  have h4 : ∀ o, (w.alloc o).cell? ⟨p, 2, none⟩ = some (.pointer (some ⟨q0, 0, none⟩)) := fun o => h2 o 0
  have h5 : ∀ o, (w.alloc o).cell? ⟨p, 3, none⟩ = some (.pointer (some ⟨q1, 0, none⟩)) := fun o => h3 o 0
  clear hc
  cases s
  all_goals
    simp only [sideV, if_true, if_false, Bool.false_eq_true]
    go_enter Try.func55, Try.ntmps55
    have hw0 : IntKind.i64.wrap (1 - 0) = 1 := by decide
    have hw1 : IntKind.i64.wrap (1 - 1) = 0 := by decide
    go_wp2
    go_quiet (fail)
    go_wp2
    go_ret
    exact ⟨rfl, ((Turn.refl _ _).alloc _).drewN _⟩
set_option maxHeartbeats 1000000 in
theorem room_any {w : World} {m : Nat} {c : Ch} (hc : ChIs w m c) (s : Bool) :
    Calls Try.prog 48 #[sideV (c.base + 2) s] w fun e w' => e = .returned (.int .i64 (if (if s then c.l1 else c.l0).length = m then 22 else 0)) ∧ Turn Nn w w' := by
  obtain ⟨q, hq⟩ : ∃ q, (if s then c.base + 1 else c.base) = q := ⟨_, rfl⟩
  obtain ⟨L, hL⟩ : ∃ L, (if s then c.l1 else c.l0) = L := ⟨_, rfl⟩
  have ho := fun w1 (t : Turn Nn w w1) => out_any ((t.block _ (heap_lt hc.1) (fun h => h)).trans hc.1) s
  have hqi : QIs w q L m := by rw [← hq, ← hL]; cases s; exact hc.2.1; exact hc.2.2
  rw [hL]
  rw [hq] at ho
  unfold sideV at ho ⊢
  obtain ⟨p, hp⟩ : ∃ p, c.base + 2 = p := ⟨_, rfl⟩
  obtain ⟨z, hz⟩ : ∃ z : Int, (if s then 1 else 0) = z := ⟨_, rfl⟩
  rw [hp, hz] at ho
  rw [hp, hz]
  have HO := Lib.hid ho
  clear hp hq ho hc hL hz
  have hlen := hqi.le
  by_cases hfl : L.length = m
  · have hb : ((L.length : Int) == (m : Int)) = true := by rw [beq_iff_eq]; omega
    have HB := Lib.hid hb
    rw [if_pos hfl]
    clear hb hfl
    go_enter Try.func48, Try.ntmps48
    go_wp2_with fail
    refine (HO.out _ ((Turn.refl _ _).alloc _)).mono ?_
    rintro e w1 ⟨rfl, t1⟩
    have t2 : Turn Nn w w1 := ((Turn.refl _ _).alloc _).trans t1
    clear t1
    go_wp2_with fail
    refine (fullqb (hqi.turn t2 (fun h => h)) HB.out).mono ?_
    rintro e w2 ⟨rfl, k2, rfl⟩
    go_wp2_with fail
    go_ret
    exact ⟨rfl, t2.drewN _⟩
  · have hb : ((L.length : Int) == (m : Int)) = false := by rw [beq_eq_false_iff_ne]; omega
    have HB := Lib.hid hb
    rw [if_neg hfl]
    clear hb hfl
    go_enter Try.func48, Try.ntmps48
    go_wp2_with fail
    refine (HO.out _ ((Turn.refl _ _).alloc _)).mono ?_
    rintro e w1 ⟨rfl, t1⟩
    have t2 : Turn Nn w w1 := ((Turn.refl _ _).alloc _).trans t1
    clear t1
    go_wp2_with fail
    refine (fullqb (hqi.turn t2 (fun h => h)) HB.out).mono ?_
    rintro e w2 ⟨rfl, k2, rfl⟩
    go_wp2_with fail
    go_ret
    exact ⟨rfl, t2.drewN _⟩
set_option maxHeartbeats 1000000 in
theorem some_any {w : World} {m : Nat} {c : Ch} (hc : ChIs w m c) (s : Bool) :
    Calls Try.prog 53 #[sideV (c.base + 2) s] w fun e w' => e = .returned (.int .i64 (if (if s then c.l0 else c.l1).length = 0 then 23 else 0)) ∧ Turn Nn w w' := by
  obtain ⟨q, hq⟩ : ∃ q, (if s then c.base else c.base + 1) = q := ⟨_, rfl⟩
  obtain ⟨L, hL⟩ : ∃ L, (if s then c.l0 else c.l1) = L := ⟨_, rfl⟩
  have ho := fun w1 (t : Turn Nn w w1) => in_any ((t.block _ (heap_lt hc.1) (fun h => h)).trans hc.1) s
  have hqi : QIs w q L m := by rw [← hq, ← hL]; cases s; exact hc.2.2; exact hc.2.1
  rw [hL]
  rw [hq] at ho
  unfold sideV at ho ⊢
  obtain ⟨p, hp⟩ : ∃ p, c.base + 2 = p := ⟨_, rfl⟩
  obtain ⟨z, hz⟩ : ∃ z : Int, (if s then 1 else 0) = z := ⟨_, rfl⟩
  rw [hp, hz] at ho
  rw [hp, hz]
  have HO := Lib.hid ho
  clear hp hq ho hc hL hz
  have hlen := hqi.le
  by_cases hfl : L.length = 0
  · have hb : L.length = 0 := hfl
    have HB := Lib.hid hb
    rw [if_pos hfl]
    clear hb hfl
    go_enter Try.func53, Try.ntmps53
    go_wp2_with fail
    refine (HO.out _ ((Turn.refl _ _).alloc _)).mono ?_
    rintro e w1 ⟨rfl, t1⟩
    have t2 : Turn Nn w w1 := ((Turn.refl _ _).alloc _).trans t1
    clear t1
    go_wp2_with fail
    refine (lenqn (hqi.turn t2 (fun h => h)) HB.out).mono ?_
    rintro e w2 ⟨rfl, k2, rfl⟩
    go_wp2_with fail
    go_ret
    exact ⟨rfl, t2.drewN _⟩
  · obtain ⟨N, hN⟩ : ∃ N, L.length = N := ⟨_, rfl⟩
    have hb : L.length = N := hN
    have hN0 : ((N : Int) == 0) = false := by rw [beq_eq_false_iff_ne]; omega
    clear hN
    have HB := Lib.hid hb
    rw [if_neg hfl]
    clear hb hfl hlen
    go_enter Try.func53, Try.ntmps53
    go_wp2_with fail
    refine (HO.out _ ((Turn.refl _ _).alloc _)).mono ?_
    rintro e w1 ⟨rfl, t1⟩
    have t2 : Turn Nn w w1 := ((Turn.refl _ _).alloc _).trans t1
    clear t1
    go_wp2_with fail
    refine (lenqn (hqi.turn t2 (fun h => h)) HB.out).mono ?_
    rintro e w2 ⟨rfl, k2, rfl⟩
    go_wp2_with fail
    go_ret
    exact ⟨rfl, t2.drewN _⟩
end Go.Proofs.Ytjnekmdocbmofaa
