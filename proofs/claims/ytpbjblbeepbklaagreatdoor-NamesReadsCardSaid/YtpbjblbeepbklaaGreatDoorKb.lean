/- What may differ between two worlds; values that read as words. A region that draws its order, outside a fence: one operation alone may come up. The document's walks: a number, its value. The document's walks: a number's value; what stands between bytes; where a byte stands last; an actor's name. The document's walks: an actor's name, a channel's, an end, a parent. The document's walks: a channel's name, an end, a parent. The document's walks: an end, the order of actors. -/
import Derived.Test.YtpbjblbeepbklaaGreatDoorProg
import Derived.Test.YtpbjblbeepbklaaGreatDoorKa
import Derived.WalkKit
import Derived.WalkSpells
import Derived.WalkLawsBesides
import Derived.Deep.QuietTactic
import Derived.BigQuiet
import Derived.KernelRfl
import Derived.Lib.Hide
import Derived.OrdersHeld
import Derived.Maps.AppendAt
import Derived.StillTailTactics
namespace Go.Proofs.YtpbjblbeepbklaaGreatDoor
set_option linter.unusedSimpArgs false
set_option linter.unusedVariables false
section
open Go.RowKit

theorem World.alloc_heap_new (w : World) (o : Obj) : (w.alloc o).heap[w.heap.size]? = some o := by
  show (w.heap.push o)[w.heap.size]? = some o
  simp

/-- w' is w but for blocks of S and what is new. -/
structure Turn (S : Nat → Prop) (w w' : World) : Prop where
  os : w'.os = w.os
  tape : w'.tape = w.tape
  output : w'.output = w.output
  size : w.heap.size ≤ w'.heap.size
  block : ∀ k, k < w.heap.size → ¬ S k → w'.heap[k]? = w.heap[k]?
def Nn (_ : Nat) : Prop := False
theorem Turn.refl (S : Nat → Prop) (w : World) : Turn S w w := ⟨rfl, rfl, rfl, Nat.le_refl _, fun _ _ _ => rfl⟩
theorem Turn.trans {S : Nat → Prop} {a b c : World} (h : Turn S a b) (k : Turn S b c) : Turn S a c :=
  ⟨k.os.trans h.os, k.tape.trans h.tape, k.output.trans h.output, Nat.le_trans h.size k.size, fun i hi hs => (k.block i (Nat.lt_of_lt_of_le hi h.size) hs).trans (h.block i hi hs)⟩
theorem Turn.mono {S T : Nat → Prop} {a b : World} (h : Turn S a b) (hs : ∀ k, S k → T k) : Turn T a b :=
  ⟨h.os, h.tape, h.output, h.size, fun i hi hn => h.block i hi (fun hk => hn (hs i hk))⟩
theorem Turn.drewN {S : Nat → Prop} {a w : World} (h : Turn S a w) (n : Nat) : Turn S a (w.drewN n) := h.trans ⟨rfl, rfl, rfl, Nat.le_refl _, fun _ _ _ => rfl⟩
theorem Turn.drew {S : Nat → Prop} {a w : World} (h : Turn S a w) : Turn S a w.drew := h.trans ⟨rfl, rfl, rfl, Nat.le_refl _, fun _ _ _ => rfl⟩
theorem Turn.alloc {S : Nat → Prop} {a w : World} (h : Turn S a w) (o : Obj) : Turn S a (w.alloc o) :=
  h.trans ⟨rfl, rfl, rfl, by simp, fun k hk _ => Below.heap_alloc _ _ _ hk⟩
theorem Turn.setCell {S : Nat → Prop} {a w : World} (h : Turn S a w) {p : Addr} (hp : S p.block ∨ a.heap.size ≤ p.block) (u : Value) : Turn S a (w.setCell p u) :=
  ⟨h.os, h.tape, h.output, by simp [World.setCell]; exact h.size, fun k hk hs => by
    rw [Below.heap_setCell _ _ _ _ (by rintro rfl; rcases hp with hp | hp; exact hs hp; omega)]; exact h.block k hk hs⟩
theorem heap_setCell_at {w : World} {b : Nat} {c : Array Value} {t : TypeId} (h : w.heap[b]? = some (.cells c t)) (i : Nat) (v : Value) :
    (w.setCell ⟨b, i, none⟩ v).heap[b]? = some (.cells (c.setIfInBounds i v) t) := by
  simp [World.setCell, Array.getElem?_modify, h]
theorem heap_lt {w : World} {b : Nat} {o : Obj} (h : w.heap[b]? = some o) : b < w.heap.size := by
  rcases Nat.lt_or_ge b w.heap.size with h' | h'
  · exact h'
  · simp [Array.getElem?_eq_none h'] at h
theorem Turn.below {w w' : World} (t : Turn Nn w w') : Below w.heap.size w w' := ⟨t.os, t.tape, t.output, t.size, fun k hk => t.block k hk (fun h => h)⟩
theorem Turn.of_below {w w' : World} (t : Below w.heap.size w w') : Turn Nn w w' := ⟨t.os, t.tape, t.output, t.size, fun k hk _ => t.block k hk⟩
theorem var_turn {P : Program} {w w' : World} {n : String} {cs : Array Value} (t : Turn Nn w w') (h : w.var? P n = some cs) : w'.var? P n = some cs := by
  unfold World.var? at h ⊢
  cases hg : P.globalNamed n with
  | none => rw [hg] at h; cases h
  | some g =>
    rw [hg] at h
    simp only [Option.bind_some] at h ⊢
    cases hb : w.heap[g]? with
    | none => rw [hb] at h; cases h
    | some o => rw [t.block g (heap_lt hb) (fun h => h), hb]; rw [hb] at h; exact h
theorem cell_turn {w w' : World} (t : Turn Nn w w') {a : Addr} {v : Value} (h : w.cell? a = some v) : w'.cell? a = some v := by
  have hl := World.block_lt_of_cell? w a h
  unfold World.cell? at h ⊢
  rw [t.block a.block hl (fun h => h)]; exact h
theorem Turn.grow {S : Nat → Prop} {a w : World} (h : Turn S a w) (os : Array Obj) : Turn S a (Sort.grow w os) :=
  h.trans ⟨rfl, rfl, rfl, by simp [Sort.grow], fun k hk _ => by simp [Sort.grow, Array.getElem?_append, hk]⟩

theorem cell_blk {w : World} {b o : Nat} {cs : Array Value} {t : TypeId} {d : Nat × Nat} (h : w.heap[b]? = some (.cells cs t d)) : w.cell? ⟨b, o, none⟩ = cs[o]? := by
  unfold World.cell?
  simp [h]
/-- The value reads as these words. -/
def StrSl (w : World) (v : Value) (L : List Bs) : Prop :=
  (L = [] ∧ ∃ pa cap, v = .slice pa 0 cap) ∨ (∃ b o cap, v = .slice (some ⟨b, o, none⟩) L.length cap ∧ L.length ≤ cap ∧ ∀ i, i < L.length → w.cell? ⟨b, o + i, none⟩ = some (.string ⟨(L[i]?.getD []).toArray⟩))
theorem StrSl.turn {w w' : World} {v : Value} {L : List Bs} (h : StrSl w v L) (t : Turn Nn w w') : StrSl w' v L := by
  rcases h with h | ⟨b, o, cap, h1, h2, h3⟩
  · exact .inl h
  · exact .inr ⟨b, o, cap, h1, h2, fun i hi => cell_turn t (h3 i hi)⟩
theorem ownsRow_turn {w w' : World} {B : Nat} {e : TypeId} {sz : Nat} {v : Value} {n : Nat} {xs : List Value} (h : w.ownsRow B e sz v n xs) (t : Turn Nn w w') : w'.ownsRow B e sz v n xs := by
  refine ⟨h.1, ?_⟩
  rcases h.2 with hn | ⟨g, cap, cur, rfl, hb, hgg, rest⟩
  · exact .inl hn
  · exact .inr ⟨g, cap, cur, rfl, hb, (t.block g (heap_lt hgg) (fun h => h)).trans hgg, rest⟩

def BT (l : Bs) : ByteArray := ⟨l.toArray⟩
theorem frozen_blk {w : World} {b o : Nat} {cs : Array Value} {t : TypeId} (h : w.heap[b]? = some (.cells cs t)) : w.frozen? ⟨b, o, none⟩ = false := by
  unfold World.frozen?
  simp [h]
theorem alloc1 {w w' : World} {a : Obj} (h : w.alloc a = w') : w'.heap[w.heap.size]? = some a ∧ Turn Nn w w' := by
  subst h
  exact ⟨World.alloc_heap_new w a, (Turn.refl _ _).alloc _⟩
theorem BT_append (a b : Bs) : BT a ++ BT b = BT (a ++ b) := by
  unfold BT
  apply ByteArray.ext
  simp
theorem blk_set {w : World} {b c o : Nat} {x : Value} {ob : Obj} (h : w.heap[c]? = some ob) (hne : c ≠ b) : (w.setCell ⟨b, o, none⟩ x).heap[c]? = some ob := by
  rw [Below.heap_setCell _ _ _ _ (fun e => hne e)]
  exact h
end
section
open Go
variable {P : Program} {ops : Array Oper} {Q : Exit → Act → World → Prop} {md : Region.Mode} {S : World → Prop}

theorem held_one (i : Nat) {o : Oper} {k : Nat} {l : Array Bool} {a : Act} {w : World} (hr : Region.ready md ops l = [i]) (ho : ops[i]? = some o) (hx : Region.wanted o (yielded ops a.tmps) = true)
    (h : ∀ K : Act → World → Prop, (∀ b u, S u → wpAnyH P md ops Q S k (l.setIfInBounds i true) b u → K b u) → Oper.wp P o a w K Q) : wpAnyH P md ops Q S (k + 1) l a w := by
  refine ⟨fun h0 => (by rw [hr] at h0; cases h0), fun j hj => ?_⟩
  rw [hr] at hj
  obtain rfl : j = i := by simpa using hj
  unfold wpOp
  simp only [ho]
  rw [if_pos hx]
  exact Or.inl (h _ (fun b u h1 h2 => ⟨h1, h2⟩))
theorem held_take (i : Nat) (v : Value) {oi : Oper} {k : Nat} {l : Array Bool} {a : Act} {w : World} (hi : ops[i]? = some oi) (hs : Region.noSelect ops = true) (hf : Region.free md ops l i = true)
    (hr : (Region.ready md ops l).contains i = true) (hQ : ∀ c a w, Q (.panic c) (a.put oi.dst v) w → Q (.panic c) a w) (hy : YieldsIf P ops S oi v a) (hS : S w)
    (h : wpAnyH P md ops Q S k (l.setIfInBounds i true) (a.put oi.dst v) w) : wpAnyH P md ops Q S (k + 1) l a w :=
  wpAnyH_take hi hs hf hr hQ hy hS h
theorem held_begin (S : World → Prop) {id : Nat} {a : Act} {w : World} (hm : P.follows .mixedOrders = true)
    (h : wpAnyH P .any ops Q S ops.size (Array.replicate ops.size false) a w.drew) : (Code.region id ops true).wp P Q a w :=
  wp_region_held hm h
/-- A call in a drawn region, by its contract. -/
theorem held_call {P : Program} {ops : Array Oper} {Q : Exit → Act → World → Prop} {md : Region.Mode} {S : World → Prop} (i : Nat) {o : Oper} {k : Nat} {l : Array Bool} {a : Act} {w : World} {f : FuncId} {args : Array Value} {R : Ending → World → Prop} (hr : Region.ready md ops l = [i]) (ho : ops[i]? = some o) (hx : Region.wanted o (yielded ops a.tmps) = true)
    (he : (execOp a.eval o).run P w = .ok (.enter f args) w) (hc : Calls P f args w R) (hret : ∀ v u, R (.returned v) u → S u ∧ wpAnyH P md ops Q S k (l.setIfInBounds i true) (a.put o.dst v) u) (hpan : ∀ c u, R (.panicked c) u → Q (.panic c) a u) (hout : ∀ u, ¬ R .outgrown u) : wpAnyH P md ops Q S (k + 1) l a w :=
  held_one i hr ho hx (fun K hK => by
    unfold Oper.wp
    rw [he]
    rw [Oper.upon_enter]
    exact hc.mono (fun e u h => by
      cases e with
      | returned v => exact hK _ _ (hret v u h).1 (hret v u h).2
      | panicked c => exact hpan c u h
      | outgrown => exact absurd h (hout u)))
/-- append, by the equation of its run. -/
theorem wpList_append_eq {P : Program} {w : World} {ops : Array Oper} {rest : List Oper} {o : Oper} {a : Act} {Q : Exit → Act → World → Prop}
    (hg : o.guard = none) (s x : Operand) (t : TypeId) (hop : o.op = Op.call { callee := Callee.builtin Builtin.append, args := #[s, x], argTypes := #[t, t] })
    (v u : Value) (hs : a.eval s = v) (hx : a.eval x = u) {r : Value} {W' : World} (hrun : (Builtin.append_ #[t, t] o.type #[v, u]).run P w = .ok r W')
    (hK : wpList P ops Q rest (a.put o.dst r) W') : wpList P ops Q (o :: rest) a w := by
  refine wpList_plain hg fun K hK' => ?_
  unfold Oper.wp
  simp [execOp, hop, resolve, invoke, builtin, hs, hx, hrun, Result.andThen]
  exact hK' _ _ hK
theorem held_pair {P : Program} {ops : Array Oper} {Q : Exit → Act → World → Prop} {md : Region.Mode} {S : World → Prop} (i j : Nat) {oi oj : Oper} {k : Nat} {l : Array Bool} {a : Act} {w : World} (hr : Region.ready md ops l = [i, j]) (hi : ops[i]? = some oi) (hj : ops[j]? = some oj)
    (hxi : Region.wanted oi (yielded ops a.tmps) = true) (hxj : Region.wanted oj (yielded ops a.tmps) = true)
    (h1 : ∀ K : Act → World → Prop, (∀ b u, S u → wpAnyH P md ops Q S k (l.setIfInBounds i true) b u → K b u) → Oper.wp P oi a w K Q)
    (h2 : ∀ K : Act → World → Prop, (∀ b u, S u → wpAnyH P md ops Q S k (l.setIfInBounds j true) b u → K b u) → Oper.wp P oj a w K Q) : wpAnyH P md ops Q S (k + 1) l a w := by
  refine ⟨fun h0 => (by rw [hr] at h0; cases h0), fun t ht => ?_⟩
  rw [hr] at ht
  have ht : t = i ∨ t = j := by simpa using ht
  unfold wpOp
  rcases ht with rfl | rfl
  · simp only [hi]
    rw [if_pos hxi]
    exact Or.inl (h1 _ (fun b u h1 h2 => ⟨h1, h2⟩))
  · simp only [hj]
    rw [if_pos hxj]
    exact Or.inl (h2 _ (fun b u h1 h2 => ⟨h1, h2⟩))
section
theorem nA {α : Type} {xs : List α} {i : Nat} (h : i < xs.toArray.size) : xs.toArray[i] = xs[i]'(by simpa using h) := List.getElem_toArray h
theorem nB {α : Type} {a : α} {ys : List α} {i : Nat} (h : i + 1 < (a :: ys).length) : (a :: ys)[i + 1]'h = ys[i]'(Nat.lt_of_succ_lt_succ h) := List.getElem_cons_succ a ys i h
theorem nC {α : Type} {a : α} {ys : List α} (h : 0 < (a :: ys).length) : (a :: ys)[0]'h = a := rfl
theorem nD {α : Type} {ys : List α} {i : Nat} {a : α} : ys.toArray.setIfInBounds i a = (ys.set i a).toArray := List.setIfInBounds_toArray ys i a
theorem nE {α : Type} {x : α} {xs : List α} {n : Nat} {a : α} : (x :: xs).set (n + 1) a = x :: xs.set n a := rfl
theorem nF {α : Type} {x : α} {xs : List α} {a : α} : (x :: xs).set 0 a = a :: xs := rfl
end
end
section
open Go.RowKit

theorem BT_size (a : Bs) : (BT a).size = a.length := by unfold BT; simp [ByteArray.size]
theorem BT_at {s : Bs} {k : Nat} (h : k < s.length) (w : World) : (Instr.index 9 (.string (BT s)) (.int .i64 k)).run Tryz.prog w = .ok (.int .u8 ((s[k].toNat : Nat) : Int)) w := by
  have h1 : k < (BT s).size := by rw [BT_size]; exact h
  rw [run_index_string w 9 (BT s) .i64 k Tryz.underlying9, dif_pos ⟨by omega, by omega⟩]
  rfl
def numB (l : Bs) : Bool := (numL l).isSome
theorem valGo_bad {l : Bs} {k m : Nat} (h : k < l.length) (h0 : valGo 0 (l.take k) = some m) (hc : ¬ (48 ≤ l[k].toNat ∧ l[k].toNat ≤ 57)) : valGo 0 l = none := by
  have e : l = l.take k ++ l[k] :: l.drop (k + 1) := by rw [← List.drop_eq_getElem_cons h, List.take_append_drop]
  rw [e, valGo_append, h0]
  simp only [Option.bind_some, valGo]
  rw [if_neg hc]
theorem valGo_good {l : Bs} {k m : Nat} (h : k < l.length) (h0 : valGo 0 (l.take k) = some m) (hc : 48 ≤ l[k].toNat ∧ l[k].toNat ≤ 57) : valGo 0 (l.take (k + 1)) = some (10 * m + (l[k].toNat - 48)) := by
  rw [List.take_succ_eq_append_getElem h, valGo_append, h0]
  simp only [Option.bind_some, valGo]
  rw [if_pos hc]
theorem numB_no {l : Bs} (h : l.length < 1 ∨ 9 < l.length ∨ (l.head? = some 48 ∧ 1 < l.length)) : numB l = false := by
  unfold numB
  rw [← refNum_numL]
  unfold refNum
  rw [if_pos h]; rfl
theorem numB_go {l : Bs} (h : ¬ (l.length < 1 ∨ 9 < l.length ∨ (l.head? = some 48 ∧ 1 < l.length))) : numB l = (valGo 0 l).isSome := by
  unfold numB
  rw [← refNum_numL]
  unfold refNum
  rw [if_neg h]
set_option maxRecDepth 100000 in
set_option maxHeartbeats 4000000 in
theorem refNumber_any {l : Bs} (hl : l.length ≤ 4000000) (w : World) : Calls Tryz.prog 31 #[.string (BT l)] w fun e w' => e = .returned (.bool (numB l)) ∧ w' = w := by
  obtain ⟨M, hM⟩ : ∃ M, BT l = M := ⟨_, rfl⟩
  have hMs : M.size = l.length := by rw [← hM, BT_size]
  have HM := Lib.hid hM
  have HMS := Lib.hid hMs
  have hMl : M.size ≤ 4000000 := by omega
  obtain ⟨z, hz⟩ : ∃ z, numB l = z := ⟨_, rfl⟩
  have HZ := Lib.hid hz
  rw [hM, hz]
  by_cases h1 : l.length < 1
  · obtain rfl : z = false := by rw [← hz]; exact numB_no (.inl h1)
    have h2 : M.size < 1 := by omega
    clear hM hMs hz h1 hl
    go_enter Tryz.func31, Tryz.ntmps31
    go_wp2_with fail
    go_ret
    exact ⟨rfl, rfl⟩
  by_cases h2 : 9 < l.length
  · obtain rfl : z = false := by rw [← hz]; exact numB_no (.inr (.inl h2))
    have h3 : 9 < M.size := by omega
    clear hM hMs hz h1 hl h2
    go_enter Tryz.func31, Tryz.ntmps31
    go_wp2_with fail
    go_ret
    exact ⟨rfl, rfl⟩
  obtain ⟨c, hc⟩ : ∃ c, l[0]'(by omega) = c := ⟨_, rfl⟩
  have hi0 : ∀ w, (Instr.index 9 (.string M) (.int .i64 0)).run Tryz.prog w = .ok (.int .u8 (c.toNat : Int)) w := fun w => by
    rw [← hM, ← hc]
    have := BT_at (s := l) (k := 0) (by omega) w
    exact this
  have hhd : l.head? = some c := by
    rw [← hc]
    cases l with
    | nil => simp at h1
    | cons a r => rfl
  have h3 : 1 ≤ M.size := by omega
  have h4 : M.size ≤ 9 := by omega
  obtain ⟨b, hb⟩ : ∃ b, ((c.toNat : Int) == 48) = b := ⟨_, rfl⟩
  by_cases h6 : c = 48 ∧ 1 < M.size
  · obtain rfl : z = false := by rw [← hz]; exact numB_no (.inr (.inr ⟨by rw [hhd, h6.1], by omega⟩))
    have h48 : c.toNat = 48 := by rw [h6.1]; rfl
    have h6 := h6.2
    rw [h48] at hi0
    clear hM hMs hz h1 hl h2 hhd hc hb h48
    go_enter Tryz.func31, Tryz.ntmps31
    go_wp2_with fail
    go_ret
    exact ⟨rfl, rfl⟩
  · have HNO : Hid (¬ (l.length < 1 ∨ 9 < l.length ∨ (l.head? = some 48 ∧ 1 < l.length))) := Lib.hid (by
      rintro (h | h | ⟨h, h'⟩)
      · exact h1 h
      · exact h2 h
      · rw [hhd] at h; exact h6 ⟨Option.some.inj h, by omega⟩)
    have hx : ¬ (b = true ∧ 1 < M.size) := by
      rintro ⟨rfl, h⟩
      refine h6 ⟨?_, h⟩
      apply UInt8.toNat_inj.1
      have h48 : (48 : UInt8).toNat = 48 := rfl
      have := eq_of_beq hb
      omega
    have key : Calls Tryz.prog 31 #[.string M] w fun e w' => e = .returned (.bool z) ∧ w' = w := by
      cases b with
      | true =>
        have h7 : ¬ 1 < M.size := fun h => hx ⟨rfl, h⟩
        have h48 : c.toNat = 48 := by have := eq_of_beq hb; omega
        rw [h48] at hi0
        clear hM hMs hz h1 hl h2 hhd hc hb h48 hx h6
        go_enter Tryz.func31, Tryz.ntmps31
        go_wp2_with fail
        clear hi0 h7
        go_loop [3] (fun i => ∃ k m : Nat, k ≤ M.size ∧ i = .int .i64 k ∧ valGo 0 (l.take k) = some m) (fun i => M.size - (intOf i).toNat)
        case atStart => exact ⟨0, 0, by omega, rfl, rfl⟩
        case round =>
          obtain ⟨k, m, hk, rfl, hv⟩ := hrel
          by_cases hlt : k < M.size
          · have hkl : k < l.length := by rw [← HMS.out]; exact hlt
            have hB := fun h => valGo_bad hkl hv h
            have hG := fun h => valGo_good hkl hv h
            obtain ⟨d, hd⟩ : ∃ d, l[k] = d := ⟨_, rfl⟩
            have hiS : ∀ w, (Instr.index 9 (.string M) (.int .i64 k)).run Tryz.prog w = .ok (.int .u8 (d.toNat : Int)) w := fun w => by
              rw [← HM.out, ← hd]; exact BT_at hkl w
            rw [hd] at hB hG
            have hdl := d.toNat_lt
            by_cases c1 : d.toNat < 48
            · obtain rfl : z = false := by rw [← HZ.out, numB_go HNO.out, hB (by omega)]; rfl
              have c1' : (d.toNat : Int) < 48 := by omega
              clear hB hG hd hv hkl c1
              go_wp2_with fail
              go_ret
              exact ⟨rfl, rfl⟩
            by_cases c2 : 57 < d.toNat
            · obtain rfl : z = false := by rw [← HZ.out, numB_go HNO.out, hB (by omega)]; rfl
              have c1' : ¬ (d.toNat : Int) < 48 := by omega
              have c2' : (57 : Int) < (d.toNat : Int) := by omega
              clear hB hG hd hv hkl c1 c2
              go_wp2_with fail
              go_ret
              exact ⟨rfl, rfl⟩
            · have HG := Lib.hid (hG ⟨by omega, by omega⟩)
              have c1' : ¬ (d.toNat : Int) < 48 := by omega
              have c2' : ¬ (57 : Int) < (d.toNat : Int) := by omega
              clear hB hG hd hv hkl c1 c2
              go_wp2_with fail
              go_round
              case rel => exact ⟨k + 1, _, by omega, by go_num, HG.out⟩
              case measure => simp [intOf]; omega
          · have hkl : l.take k = l := List.take_of_length_le (by rw [← HMS.out]; omega)
            rw [hkl] at hv
            obtain rfl : z = true := by rw [← HZ.out, numB_go HNO.out, hv]; rfl
            clear hv hkl
            go_wp2_with fail
            go_ret
            exact ⟨rfl, rfl⟩
      | false =>
        clear hM hMs hz h1 hl h2 hhd hc hx h6
        go_enter Tryz.func31, Tryz.ntmps31
        go_wp2_with fail
        clear hi0 hb
        go_loop [3] (fun i => ∃ k m : Nat, k ≤ M.size ∧ i = .int .i64 k ∧ valGo 0 (l.take k) = some m) (fun i => M.size - (intOf i).toNat)
        case atStart => exact ⟨0, 0, by omega, rfl, rfl⟩
        case round =>
          obtain ⟨k, m, hk, rfl, hv⟩ := hrel
          by_cases hlt : k < M.size
          · have hkl : k < l.length := by rw [← HMS.out]; exact hlt
            have hB := fun h => valGo_bad hkl hv h
            have hG := fun h => valGo_good hkl hv h
            obtain ⟨d, hd⟩ : ∃ d, l[k] = d := ⟨_, rfl⟩
            have hiS : ∀ w, (Instr.index 9 (.string M) (.int .i64 k)).run Tryz.prog w = .ok (.int .u8 (d.toNat : Int)) w := fun w => by
              rw [← HM.out, ← hd]; exact BT_at hkl w
            rw [hd] at hB hG
            have hdl := d.toNat_lt
            by_cases c1 : d.toNat < 48
            · obtain rfl : z = false := by rw [← HZ.out, numB_go HNO.out, hB (by omega)]; rfl
              have c1' : (d.toNat : Int) < 48 := by omega
              clear hB hG hd hv hkl c1
              go_wp2_with fail
              go_ret
              exact ⟨rfl, rfl⟩
            by_cases c2 : 57 < d.toNat
            · obtain rfl : z = false := by rw [← HZ.out, numB_go HNO.out, hB (by omega)]; rfl
              have c1' : ¬ (d.toNat : Int) < 48 := by omega
              have c2' : (57 : Int) < (d.toNat : Int) := by omega
              clear hB hG hd hv hkl c1 c2
              go_wp2_with fail
              go_ret
              exact ⟨rfl, rfl⟩
            · have HG := Lib.hid (hG ⟨by omega, by omega⟩)
              have c1' : ¬ (d.toNat : Int) < 48 := by omega
              have c2' : ¬ (57 : Int) < (d.toNat : Int) := by omega
              clear hB hG hd hv hkl c1 c2
              go_wp2_with fail
              go_round
              case rel => exact ⟨k + 1, _, by omega, by go_num, HG.out⟩
              case measure => simp [intOf]; omega
          · have hkl : l.take k = l := List.take_of_length_le (by rw [← HMS.out]; omega)
            rw [hkl] at hv
            obtain rfl : z = true := by rw [← HZ.out, numB_go HNO.out, hv]; rfl
            clear hv hkl
            go_wp2_with fail
            go_ret
            exact ⟨rfl, rfl⟩
    exact key
end
section
open Go.RowKit

def strCellsL (L : List Bs) : List Value := L.map fun x => .string (BT x)
theorem grown_low {w0 w w' : World} {b : Option Nat} (h : Turn Nn w0 w) (g : w.grownBy w' b) (hb : ∀ j, b = some j → w0.heap.size ≤ j) : Turn Nn w0 w' :=
  ⟨g.os.trans h.os, g.tape.trans h.tape, g.output.trans h.output, Nat.le_trans h.size g.size, fun j hj hs =>
    (g.block j (Nat.lt_of_lt_of_le hj h.size) (fun e => by have := hb j e.symm; omega)).trans (h.block j hj hs)⟩
/-- Behind w0: a slice of own texts. -/
structure OWS (w0 : World) (v : Value) (L : List Bs) (w : World) : Prop where
  own : w.ownsRow w0.heap.size 9 1 v L.length (strCellsL L)
  low : Turn Nn w0 w
theorem OWS.nil {w0 w : World} (t : Turn Nn w0 w) : OWS w0 (.slice none 0 0) [] w := ⟨⟨rfl, .inl ⟨rfl, rfl⟩⟩, t⟩
theorem OWS.turn {w0 w w' : World} {v : Value} {L : List Bs} (h : OWS w0 v L w) (t : Turn Nn w w') : OWS w0 v L w' := ⟨ownsRow_turn h.own t, h.low.trans t⟩
theorem OWS.shape {w0 w : World} {v : Value} {L : List Bs} (h : OWS w0 v L w) : ∃ pa n cap, v = .slice pa n cap := by
  rcases h.own.2 with ⟨e, _⟩ | ⟨_, _, _, e, _⟩
  · exact ⟨_, _, _, e⟩
  · exact ⟨_, _, _, e⟩
theorem infoW : (Tryz.prog.info? 9).map (fun i => (i.zero, i.size, i.bytes)) = some (some (.string ⟨#[]⟩), 1, 16) := by kernel_rfl
theorem OWS.push {w0 w : World} {v : Value} {L : List Bs} (h : OWS w0 v L w) (x : Bs) (ty : TypeId) (hl : L.length ≤ 10000000) :
    ∃ pa n cap W', (Builtin.append_ #[25, 25] ty #[v, .slice (some ⟨w.heap.size, 0, none⟩) 1 1]).run Tryz.prog (w.alloc (.cells #[.string (BT x)] 9)) = .ok (.slice pa n cap) W' ∧ OWS w0 (.slice pa n cap) (L ++ [x]) W' := by
  obtain ⟨i0, hi, hz0, hz1, hz2⟩ := info_parts infoW
  have t8 : Turn Nn w (w.alloc (.cells #[.string (BT x)] 9)) := (Turn.refl Nn w).alloc _
  have h1 := h.turn t8
  have hnew : (w.alloc (.cells #[.string (BT x)] 9)).heap[w.heap.size]? = some (.cells #[.string (BT x)] 9) := World.alloc_heap_new _ _
  obtain ⟨v', W', hrun, hown', hgrow, _, _⟩ := run_append_own_at (P := Tryz.prog) (w.alloc (.cells #[.string (BT x)] 9)) w0.heap.size 25 ty 9 i0 _ 1 16 Tryz.underlying25 hi hz0 hz1 hz2 rfl (by decide) v _ _ h1.own ⟨w.heap.size, 0, none⟩ 1 1 [.string (BT x)] rfl
    (fun j u hj => by
      have hj3 : j < 1 := by
        have := (List.getElem?_eq_some_iff.1 hj).1
        simpa using this
      have : (⟨w.heap.size, 0, none⟩ : Addr).add j = ⟨w.heap.size, j, none⟩ := by unfold Addr.add; split <;> simp_all
      rw [this, cell_blk hnew]
      simpa using hj)
    (fun u hu => by simp at hu; subst hu; rfl) (by simp only [maxLen]; omega) (by omega) h1.low.size
  have hO : OWS w0 v' (L ++ [x]) W' := by
    refine ⟨?_, grown_low h1.low hgrow (fun j e => (h1.own.lt j e).1)⟩
    have e1 : strCellsL (L ++ [x]) = strCellsL L ++ [.string (BT x)] := by unfold strCellsL; simp
    rw [e1, List.length_append]; exact hown'
  obtain ⟨pa, n, cap, rfl⟩ := hO.shape
  exact ⟨pa, n, cap, W', hrun, hO⟩
theorem OWS.str {w0 w : World} {v : Value} {L : List Bs} (h : OWS w0 v L w) : StrSl w v L := by
  rcases h.own.2 with ⟨rfl, h0⟩ | ⟨g, cap, cur, rfl, hb, hg, hn, _, hsz, ht⟩
  · exact .inl ⟨List.eq_nil_of_length_eq_zero h0, none, 0, rfl⟩
  · refine .inr ⟨g, 0, cap, rfl, hn, fun i hi => ?_⟩
    rw [Nat.zero_add, cell_blk hg]
    have e1 : cur[i]? = (cur.toList.take (L.length * 1))[i]? := by
      rw [List.getElem?_take_of_lt (by omega)]; simp
    rw [e1, ht]
    unfold strCellsL
    simp [hi, BT]
theorem cut_mid {l : Bs} {f k : Nat} (h1 : f ≤ k) (h2 : k ≤ l.length) : (BT l).extract f k = BT ((l.drop f).take (k - f)) := by
  unfold BT
  apply ByteArray.ext
  simp only [ByteArray.data_extract, List.extract_toArray]
  first | done | (congr 1; first | done | rw [List.extract_eq_take_drop])
theorem drop_word {l : Bs} {f k : Nat} (h1 : f ≤ k) (h2 : k < l.length) : l.drop f = (l.drop f).take (k - f) ++ l[k] :: l.drop (k + 1) := by
  have e : l[k] :: l.drop (k + 1) = l.drop k := (List.drop_eq_getElem_cons h2).symm
  rw [e]
  have e2 : l.drop k = (l.drop f).drop (k - f) := by rw [List.drop_drop]; congr 1; omega
  rw [e2, List.take_append_drop]
theorem word_no {b : UInt8} {l : Bs} {f k : Nat} (h2 : k ≤ l.length) (h : ∀ j, f ≤ j → j < k → l[j]? ≠ some b) : ∀ c ∈ (l.drop f).take (k - f), c ≠ b := by
  intro c hc e
  subst e
  obtain ⟨i, hi, hx⟩ := List.mem_iff_getElem.1 hc
  simp only [List.length_take, List.length_drop] at hi
  rw [List.getElem_take, List.getElem_drop] at hx
  exact h (f + i) (by omega) (by omega) (List.getElem?_eq_some_iff.2 ⟨by omega, hx⟩)
set_option maxRecDepth 100000 in
set_option maxHeartbeats 8000000 in
theorem refSplit_any {l : Bs} (hl : l.length ≤ 4000000) (b : UInt8) (w : World) : Calls Tryz.prog 30 #[.string (BT l), .int .u8 (b.toNat : Int)] w fun e w' => ∃ v, e = .returned v ∧ OWS w v (spC b l) w' := by
  obtain ⟨M, hM⟩ : ∃ M, BT l = M := ⟨_, rfl⟩
  have hMs : M.size = l.length := by rw [← hM, BT_size]
  have HM := Lib.hid hM
  have HMS := Lib.hid hMs
  have hMl : M.size ≤ 4000000 := by omega
  rw [hM]
  clear hM hMs
  go_enter Tryz.func30, Tryz.ntmps30
  go_wp2_with fail
  go_loopw [5, 6, 7] (fun o f i wr => ∃ (q k : Nat) (L : List Bs), q ≤ k ∧ k ≤ M.size ∧ i = .int .i64 k ∧ f = .int .i64 q ∧ (∃ pa n cap, o = .slice pa n cap ∧ OWS w (.slice pa n cap) L wr) ∧ spC b l = L ++ spC b (l.drop q) ∧ (∀ j, q ≤ j → j < k → l[j]? ≠ some b) ∧ L.length ≤ k) (fun _ _ i _ => M.size - (intOf i).toNat)
  case atStart => exact ⟨0, 0, [], by omega, by omega, rfl, rfl, ⟨_, _, _, rfl, OWS.nil (Turn.refl Nn w)⟩, by simp, fun j h1 h2 => by omega, by simp⟩
  case round =>
    obtain ⟨q, k, L, hqk, hk, rfl, rfl, ⟨pa, n, cap, rfl, hO⟩, hsp, hno, hLk⟩ := hrel
    have OW := Lib.hid hO
    have HNO := Lib.hid hno
    have HSP := Lib.hid hsp
    clear hO hno hsp
    by_cases hlt : k < M.size
    · have hkl : k < l.length := by rw [← HMS.out]; exact hlt
      obtain ⟨d, hd⟩ : ∃ d, l[k] = d := ⟨_, rfl⟩
      have hiS : ∀ w, (Instr.index 9 (.string M) (.int .i64 k)).run Tryz.prog w = .ok (.int .u8 (d.toNat : Int)) w := fun w => by
        rw [← HM.out, ← hd]; exact BT_at hkl w
      have HD := Lib.hid (List.getElem?_eq_some_iff.2 ⟨hkl, hd⟩)
      have HDW := Lib.hid (drop_word hqk hkl)
      by_cases c1 : d = b
      · subst c1
        obtain ⟨x, hx⟩ : ∃ x, (l.drop q).take (k - q) = x := ⟨_, rfl⟩
        have hcut : M.extract q k = BT x := by rw [← HM.out, ← hx]; exact cut_mid hqk (by omega)
        have HSP2 : Hid (spC d l = (L ++ [x]) ++ spC d (l.drop (k + 1))) := Lib.hid (by
          have h1 := HDW.out
          rw [hd, hx] at h1
          rw [HSP.out, h1, spC_word d x _ (by rw [← hx]; exact word_no (by omega) HNO.out)]
          simp)
        obtain ⟨pb, nb, cb, w5, hrun, hO⟩ := OW.out.push x 25 (by omega)
        have HR := Lib.hid hrun
        have OW2 := Lib.hid hO
        clear hrun hO hx hd HDW
        clear hkl
        go_wp2_with (at_builtin; refine wpList_append_eq rfl _ _ 25 rfl _ _ rfl rfl HR.out ?_)
        go_roundw
        case rel => exact ⟨k + 1, k + 1, L ++ [x], by omega, by omega, by go_num, by go_num, ⟨_, _, _, rfl, OW2.out⟩, HSP2.out, fun j h1 h2 => by omega, by simp; omega⟩
        case measure => simp [intOf]; omega
      · have h32 : ((d.toNat : Int) == (b.toNat : Int)) = false := by
          rw [beq_eq_false_iff_ne]
          intro e
          apply c1
          apply UInt8.toNat_inj.1
          omega
        have HNO2 : Hid (∀ j, q ≤ j → j < k + 1 → l[j]? ≠ some b) := Lib.hid (by
          intro j h1 h2
          by_cases hj : j = k
          · subst hj; rw [HD.out]; intro e; exact c1 (Option.some.inj e)
          · exact HNO.out j h1 (by omega))
        clear hd HDW c1
        clear hkl
        go_wp2_with fail
        go_roundw
        case rel => exact ⟨q, k + 1, L, by omega, by omega, by go_num, rfl, ⟨_, _, _, rfl, OW.out⟩, HSP.out, HNO2.out, by omega⟩
        case measure => simp [intOf]; omega
    · have hkM : k = l.length := by rw [← HMS.out]; omega
      obtain ⟨x, hx⟩ : ∃ x, l.drop q = x := ⟨_, rfl⟩
      have hcut : M.extract q M.size = BT x := by
        rw [← HM.out, BT_size, ← hx, cut_mid (by omega) (Nat.le_refl _)]
        rw [List.take_of_length_le (by simp)]
      have HSP2 : Hid (spC b l = L ++ [x]) := Lib.hid (by
        rw [HSP.out, hx, spC_last]
        intro c hc
        have h1 := word_no (b := b) (l := l) (f := q) (k := k) (by omega) HNO.out
        rw [List.take_of_length_le (by simp; omega), hx] at h1
        exact h1 c hc)
      obtain ⟨pb, nb, cb, w5, hrun, hO⟩ := OW.out.push x 25 (by omega)
      have HR := Lib.hid hrun
      have OW2 := Lib.hid hO
      clear hrun hO hx hkM
      go_wp2_with (at_builtin; refine wpList_append_eq rfl _ _ 25 rfl _ _ rfl rfl HR.out ?_)
      go_ret
      exact ⟨_, rfl, by rw [HSP2.out]; exact OW2.out⟩
def lastI (b : UInt8) (l : Bs) : Int := match lastC b l with
  | some (a, _) => (a.length : Int)
  | none => -1
theorem lastI_at {b : UInt8} {l : Bs} {k : Nat} (h : k < l.length) (hb : l[k] = b) (hno : ∀ j, k + 1 ≤ j → j < l.length → l[j]? ≠ some b) : lastI b l = (k : Int) := by
  unfold lastI
  have h1 : lastC b l = some (l.take k, l.drop (k + 1)) := by
    refine lastC_some.2 ⟨?_, ?_⟩
    · rw [← hb, ← List.drop_eq_getElem_cons h, List.take_append_drop]
    · have := word_no (b := b) (l := l) (f := k + 1) (k := l.length) (Nat.le_refl _) hno
      rw [List.take_of_length_le (by simp)] at this
      exact this
  rw [h1]
  simp only [List.length_take]
  omega
theorem lastI_none {b : UInt8} {l : Bs} (hno : ∀ j, 0 ≤ j → j < l.length → l[j]? ≠ some b) : lastI b l = -1 := by
  unfold lastI
  have := word_no (b := b) (l := l) (f := 0) (k := l.length) (Nat.le_refl _) hno
  rw [List.take_of_length_le (by simp), List.drop_zero] at this
  rw [lastC_none.2 this]
set_option maxRecDepth 100000 in
set_option maxHeartbeats 8000000 in
theorem refLast_any {l : Bs} (hl : l.length ≤ 4000000) (b : UInt8) (w : World) : Calls Tryz.prog 33 #[.string (BT l), .int .u8 (b.toNat : Int)] w fun e w' => e = .returned (.int .i64 (lastI b l)) ∧ w' = w := by
  obtain ⟨M, hM⟩ : ∃ M, BT l = M := ⟨_, rfl⟩
  have hMs : M.size = l.length := by rw [← hM, BT_size]
  have HM := Lib.hid hM
  have HMS := Lib.hid hMs
  have hMl : M.size ≤ 4000000 := by omega
  obtain ⟨z, hz⟩ : ∃ z, lastI b l = z := ⟨_, rfl⟩
  have HZ := Lib.hid hz
  rw [hM, hz]
  clear hM hMs hz
  go_enter Tryz.func33, Tryz.ntmps33
  go_wp2_with fail
  go_loop [5] (fun i => ∃ k : Nat, k ≤ M.size ∧ i = .int .i64 ((k : Int) - 1) ∧ ∀ j, k ≤ j → j < l.length → l[j]? ≠ some b) (fun i => (intOf i + 1).toNat)
  case atStart => exact ⟨M.size, by omega, by go_num, fun j h1 h2 => by have := HMS.out; omega⟩
  case round =>
    obtain ⟨k, hk, rfl, hno⟩ := hrel
    have HNO := Lib.hid hno
    clear hno
    by_cases hlt : 1 ≤ k
    · obtain ⟨k, rfl⟩ : ∃ m, k = m + 1 := ⟨k - 1, by omega⟩
      have hkl : k < l.length := by rw [← HMS.out]; omega
      have e1 : ((k + 1 : Nat) : Int) - 1 = (k : Int) := by omega
      rw [e1]
      obtain ⟨d, hd⟩ : ∃ d, l[k] = d := ⟨_, rfl⟩
      have hiS : ∀ w, (Instr.index 9 (.string M) (.int .i64 k)).run Tryz.prog w = .ok (.int .u8 (d.toNat : Int)) w := fun w => by
        rw [← HM.out, ← hd]; exact BT_at hkl w
      by_cases c1 : d = b
      · subst c1
        obtain rfl : z = (k : Int) := by rw [← HZ.out]; exact lastI_at hkl hd HNO.out
        clear hd hkl e1 hlt
        go_wp2_with fail
        go_ret
        exact ⟨rfl, rfl⟩
      · have h32 : ((d.toNat : Int) == (b.toNat : Int)) = false := by
          rw [beq_eq_false_iff_ne]
          intro e
          apply c1
          apply UInt8.toNat_inj.1
          omega
        have HNO2 : Hid (∀ j, k ≤ j → j < l.length → l[j]? ≠ some b) := Lib.hid (by
          intro j h1 h2
          by_cases hj : j = k
          · subst hj; rw [List.getElem?_eq_getElem h2, hd]; intro e; exact c1 (Option.some.inj e)
          · exact HNO.out j (by omega) h2)
        clear hd c1 hkl e1 hlt
        go_wp2_with fail
        go_round
        case rel => exact ⟨k, by omega, by go_num, HNO2.out⟩
        case measure => simp [intOf] <;> omega
    · obtain rfl : k = 0 := by omega
      obtain rfl : z = -1 := by rw [← HZ.out]; exact lastI_none (fun j _ h2 => HNO.out j (by omega) h2)
      go_wp2_with fail
      go_ret
      exact ⟨rfl, rfl⟩
end
section
open Go.RowKit

theorem numsL_all : ∀ L : List Bs, (numsL L).isSome = L.all numB
  | [] => rfl
  | x :: L => by
    have ih := numsL_all L
    unfold numsL
    rw [List.all_cons, ← ih]
    unfold numB
    cases numL x with
    | none => rfl
    | some n => cases numsL L <;> rfl
theorem actorL_all (l : Bs) : actorL l = (spC 46 l).all numB := numsL_all _
theorem all_step {L : List Bs} {k : Nat} (h : (L.take k).all numB = true) (hk : k < L.length) : (L.take (k + 1)).all numB = numB (L[k]?.getD []) := by
  rw [List.take_succ_eq_append_getElem hk, List.all_append, h]
  simp [hk]
theorem all_stop {L : List Bs} {k : Nat} (hk : k < L.length) (hn : numB (L[k]?.getD []) = false) : L.all numB = false := by
  rw [List.all_eq_false]
  refine ⟨L[k], List.getElem_mem hk, ?_⟩
  have e : L[k]?.getD [] = L[k] := by simp [hk]
  rw [e] at hn
  rw [hn]; decide
theorem spC_length (c : UInt8) : ∀ (l : Bs), (spC c l).length ≤ l.length + 1
  | [] => by simp [spC]
  | x :: r => by
    have ih := spC_length c r
    unfold spC
    split
    · simp; omega
    · split
      · simp
      · rename_i w ws e
        rw [e] at ih
        simp at ih ⊢; omega
theorem spC_word_le (c : UInt8) : ∀ (l : Bs), ∀ x ∈ spC c l, x.length ≤ l.length
  | [], x, h => by simp [spC] at h; subst h; simp
  | d :: r, x, h => by
    have ih := spC_word_le c r
    unfold spC at h
    split at h
    · rcases List.mem_cons.1 h with rfl | h
      · simp
      · have := ih x h; simp; omega
    · split at h
      · rename_i e
        have : x = [d] := by simpa using h
        subst this; simp
      · rename_i w ws e
        rw [e] at ih
        rcases List.mem_cons.1 h with rfl | h
        · have := ih w (List.mem_cons_self); simp; omega
        · have := ih x (List.mem_cons_of_mem _ h); simp; omega
theorem spC_getD_le (c : UInt8) (l : Bs) (i : Nat) : ((spC c l)[i]?.getD []).length ≤ l.length := by
  by_cases h : i < (spC c l).length
  · have e : (spC c l)[i]?.getD [] = (spC c l)[i] := by simp [h]
    rw [e]; exact spC_word_le c l _ (List.getElem_mem h)
  · rw [List.getElem?_eq_none (by omega)]; simp
set_option maxRecDepth 100000 in
set_option maxHeartbeats 8000000 in
theorem refActor_any {l : Bs} (hl : l.length ≤ 4000000) (w : World) : Calls Tryz.prog 13 #[.string (BT l)] w fun e w' => e = .returned (.bool (actorL l)) ∧ Turn Nn w w' := by
  have HS := Lib.hid (refSplit_any hl 46 w)
  have h46 : ((46 : UInt8).toNat : Int) = 46 := rfl
  rw [h46] at HS
  obtain ⟨L, hL⟩ : ∃ L, spC 46 l = L := ⟨_, rfl⟩
  have hLn := spC_length 46 l
  have hLw := spC_getD_le 46 l
  have hne := spC_ne 46 l
  rw [hL] at HS hLn hLw hne
  rw [actorL_all, hL]
  obtain ⟨z, hz⟩ : ∃ z, L.all numB = z := ⟨_, rfl⟩
  rw [hz]
  have HZ := Lib.hid hz
  have HW := Lib.hid hLw
  obtain ⟨M, hM⟩ : ∃ M, L.length = M := ⟨_, rfl⟩
  have HM := Lib.hid hM
  have hMl : M ≤ 4000001 := by omega
  have HL := Lib.hid hl
  have HNE := Lib.hid hne
  clear hz hLw hL hLn hM h46 hl hne
  go_enter Tryz.func13, Tryz.ntmps13
  go_wp2_with fail
  refine HS.out.mono ?_
  rintro e w1 ⟨v, rfl, hO⟩
  have hstr := hO.str
  have HT := Lib.hid hO.low
  rcases hstr with ⟨h0, _⟩ | ⟨b, o, cap, rfl, hcap, hc⟩
  · exact absurd h0 HNE.out
  rw [HM.out] at hc hcap ⊢
  have HC := Lib.hid hc
  clear hO hc HS HNE
  go_wp2_with fail
  go_loop [4] (fun i => ∃ k : Nat, k ≤ M ∧ i = .int .i64 k ∧ (L.take k).all numB = true) (fun i => M - (intOf i).toNat)
  case atStart => exact ⟨0, by omega, rfl, rfl⟩
  case round =>
    obtain ⟨k, hk, rfl, hN⟩ := hrel
    by_cases hlt : k < M
    · have hcell := HC.out k hlt
      have HNX := Lib.hid (all_step hN (by rw [HM.out]; exact hlt))
      have HST := Lib.hid (fun h => all_stop (L := L) (k := k) (by rw [HM.out]; exact hlt) h)
      have HCc := Lib.hid (refNumber_any (l := L[k]?.getD []) (by have := HW.out k; have := HL.out; omega) w1)
      unfold BT at HCc
      obtain ⟨T, hT⟩ : ∃ T : ByteArray, ⟨(L[k]?.getD []).toArray⟩ = T := ⟨_, rfl⟩
      obtain ⟨y, hy⟩ : ∃ y, numB (L[k]?.getD []) = y := ⟨_, rfl⟩
      rw [hT] at hcell HCc
      rw [hy] at HCc HNX HST
      clear hT hN hy
      cases y with
      | false =>
        obtain rfl : z = false := by rw [← HZ.out]; exact HST.out rfl
        go_wp2_with fail
        refine HCc.out.mono ?_
        rintro e w2 ⟨rfl, rfl⟩
        go_wp2_with fail
        go_ret
        exact ⟨rfl, HT.out⟩
      | true =>
        go_wp2_with fail
        refine HCc.out.mono ?_
        rintro e w2 ⟨rfl, rfl⟩
        go_wp2_with fail
        go_round
        case rel => exact ⟨k + 1, by omega, by go_num, HNX.out⟩
        case measure => simp [intOf]; omega
    · have hkl : L.take k = L := List.take_of_length_le (by rw [HM.out]; omega)
      rw [hkl] at hN
      obtain rfl : z = true := by rw [← HZ.out]; exact hN
      clear hkl hN
      go_wp2_with fail
      go_ret
      exact ⟨rfl, HT.out⟩
def bootB (l : Bs) : Bool := (bootN l).isSome
theorem bootB_cons (c : UInt8) (r : Bs) : bootB (c :: r) = (decide (c = 99) && numB r) := by
  by_cases h : c = 99
  · subst h
    show (numL r).isSome = _
    unfold numB; simp
  · unfold bootB bootN
    split
    · rename_i e; cases e; exact absurd rfl h
    · simp [h]
theorem BT_ext_drop {l : Bs} {k : Nat} (h : k ≤ l.length) : (BT l).extract k (BT l).size = BT (l.drop k) := by
  rw [BT_size, cut_mid h (Nat.le_refl _), List.take_of_length_le (by simp)]
theorem BT_ext_take {l : Bs} {k : Nat} (h : k ≤ l.length) : (BT l).extract 0 k = BT (l.take k) := by
  rw [cut_mid (by omega) h, List.drop_zero, Nat.sub_zero]
set_option maxRecDepth 100000 in
set_option maxHeartbeats 8000000 in
theorem refBoot_any {l : Bs} (hl : l.length ≤ 4000000) (w : World) : Calls Tryz.prog 34 #[.string (BT l)] w fun e w' => e = .returned (.bool (bootB l)) ∧ w' = w := by
  obtain ⟨M, hM⟩ : ∃ M, BT l = M := ⟨_, rfl⟩
  have hMs : M.size = l.length := by rw [← hM, BT_size]
  cases l with
  | nil =>
    rw [hM]
    have h0 : ¬ 0 < M.size := by rw [hMs]; simp
    clear hM hMs
    go_enter Tryz.func34, Tryz.ntmps34
    go_wp2_with fail
    go_ret
    exact ⟨rfl, rfl⟩
  | cons c r =>
    have hi0 : ∀ w, (Instr.index 9 (.string M) (.int .i64 0)).run Tryz.prog w = .ok (.int .u8 (c.toNat : Int)) w := fun w => by
      rw [← hM]
      have := BT_at (s := c :: r) (k := 0) (by simp) w
      exact this
    have hcut : M.extract 1 M.size = BT r := by rw [← hM]; exact BT_ext_drop (l := c :: r) (k := 1) (by simp)
    have h1 : 1 ≤ M.size := by rw [hMs]; simp
    have hMl : M.size ≤ 4000000 := by rw [hMs]; exact hl
    have HN := Lib.hid (refNumber_any (l := r) (by simp at hl; omega) w)
    rw [hM, bootB_cons]
    obtain ⟨y, hy⟩ : ∃ y, numB r = y := ⟨_, rfl⟩
    rw [hy] at HN ⊢
    obtain ⟨x, hx⟩ : ∃ x, decide (c = 99) = x := ⟨_, rfl⟩
    rw [hx]
    have hb : ((c.toNat : Int) == 99) = x := by
      rw [← hx, Bool.eq_iff_iff, beq_iff_eq, decide_eq_true_eq]
      constructor
      · intro e
        apply UInt8.toNat_inj.1
        have h48 : (99 : UInt8).toNat = 99 := rfl
        omega
      · rintro rfl; rfl
    clear hM hMs hl hy hx
    cases x with
    | true =>
      go_enter Tryz.func34, Tryz.ntmps34
      go_wp2_with fail
      refine HN.out.mono ?_
      rintro e w2 ⟨rfl, rfl⟩
      go_wp2_with fail
      go_ret
      exact ⟨rfl, rfl⟩
    | false =>
      go_enter Tryz.func34, Tryz.ntmps34
      go_wp2_with fail
      go_ret
      exact ⟨rfl, rfl⟩
end
section
open Go.RowKit

theorem chanL_eq (l : Bs) : chanL l = (bootB l || match lastC 43 l with
    | some (a, b) => actorL a && numB b
    | none => false) := by
  unfold chanL keyL bootB
  cases hb : bootN l with
  | some k => simp
  | none =>
    simp only [Option.isSome_none, Bool.false_or]
    unfold madeN
    cases hl : lastC 43 l with
    | none => rfl
    | some p =>
      obtain ⟨a, b⟩ := p
      simp only
      unfold actorL numB
      cases numL b <;> cases partsL a <;> rfl
theorem lastI_some {b : UInt8} {l a r : Bs} (h : lastC b l = some (a, r)) : lastI b l = (a.length : Int) ∧ l = a ++ b :: r := by
  refine ⟨by unfold lastI; rw [h], (lastC_some.1 h).1⟩
theorem lastI_no {b : UInt8} {l : Bs} (h : lastC b l = none) : lastI b l = -1 := by unfold lastI; rw [h]
theorem BT_cat_take (a r : Bs) : (BT (a ++ r)).extract 0 a.length = BT a := by
  rw [BT_ext_take (by simp), List.take_left' rfl]
theorem BT_cat_drop (a r : Bs) (b : UInt8) : (BT (a ++ b :: r)).extract (a.length + 1) (BT (a ++ b :: r)).size = BT r := by
  rw [BT_ext_drop (by simp)]
  congr 1
  have : a ++ b :: r = (a ++ [b]) ++ r := by simp
  rw [this, List.drop_left' (by simp)]
set_option maxRecDepth 100000 in
set_option maxHeartbeats 8000000 in
theorem refChan_any {l : Bs} (hl : l.length ≤ 4000000) (w : World) : Calls Tryz.prog 15 #[.string (BT l)] w fun e w' => e = .returned (.bool (chanL l)) ∧ Turn Nn w w' := by
  have HB := Lib.hid (refBoot_any hl w)
  have HL := Lib.hid (refLast_any hl 43 w)
  have h43 : ((43 : UInt8).toNat : Int) = 43 := rfl
  rw [h43] at HL
  rw [chanL_eq]
  obtain ⟨x, hx⟩ : ∃ x, bootB l = x := ⟨_, rfl⟩
  rw [hx] at HB ⊢
  cases hc : lastC 43 l with
  | none =>
    rw [lastI_no hc] at HL
    obtain ⟨M, hM⟩ : ∃ M, BT l = M := ⟨_, rfl⟩
    rw [hM] at HB HL ⊢
    clear hM hx hc h43
    cases x with
    | true =>
      go_enter Tryz.func15, Tryz.ntmps15
      go_wp2_with fail
      refine HL.out.mono ?_
      rintro e w2 ⟨rfl, rfl⟩
      go_wp2_with fail
      refine HB.out.mono ?_
      rintro e w2 ⟨rfl, rfl⟩
      go_wp2_with fail
      go_ret
      exact ⟨rfl, Turn.refl _ _⟩
    | false =>
      go_enter Tryz.func15, Tryz.ntmps15
      go_wp2_with fail
      refine HL.out.mono ?_
      rintro e w2 ⟨rfl, rfl⟩
      go_wp2_with fail
      refine HB.out.mono ?_
      rintro e w2 ⟨rfl, rfl⟩
      go_wp2_with fail
      go_ret
      exact ⟨rfl, Turn.refl _ _⟩
  | some p =>
    obtain ⟨a, r⟩ := p
    obtain ⟨hi, he⟩ := lastI_some hc
    rw [hi] at HL
    have hla : a.length + 1 + r.length = l.length := by rw [he]; simp; omega
    have HA := Lib.hid (refActor_any (l := a) (by omega) w)
    have HN := fun w => Lib.hid (refNumber_any (l := r) (by omega) w)
    have hc1 : (BT l).extract 0 a.length = BT a := by rw [he]; exact BT_cat_take _ _
    have hc2 : (BT l).extract (a.length + 1) (BT l).size = BT r := by rw [he]; exact BT_cat_drop _ _ _
    have hsz : (BT l).size = l.length := BT_size l
    obtain ⟨y, hy⟩ : ∃ y, actorL a = y := ⟨_, rfl⟩
    obtain ⟨z, hz⟩ : ∃ z, numB r = z := ⟨_, rfl⟩
    simp only
    rw [hy] at HA ⊢
    rw [hz] at HN ⊢
    obtain ⟨M, hM⟩ : ∃ M, BT l = M := ⟨_, rfl⟩
    obtain ⟨n, hn⟩ : ∃ n, a.length = n := ⟨_, rfl⟩
    rw [hM] at HB HL hc1 hc2 hsz ⊢
    rw [hn] at HL hc1 hc2 hla
    have hn1 : n + 1 ≤ M.size := by omega
    have hn2 : M.size ≤ 4000000 := by omega
    clear hM hx hc h43 hi he hla hy hz hn hl hsz
    cases x with
    | true =>
      clear hc1 hc2
      go_enter Tryz.func15, Tryz.ntmps15
      go_wp2_with fail
      refine HL.out.mono ?_
      rintro e w2 ⟨rfl, rfl⟩
      go_wp2_with fail
      refine HB.out.mono ?_
      rintro e w2 ⟨rfl, rfl⟩
      go_wp2_with fail
      go_ret
      exact ⟨rfl, Turn.refl _ _⟩
    | false =>
      cases y with
      | false =>
        clear hc2
        go_enter Tryz.func15, Tryz.ntmps15
        go_wp2_with fail
        refine HL.out.mono ?_
        rintro e w2 ⟨rfl, rfl⟩
        go_wp2_with fail
        refine HB.out.mono ?_
        rintro e w2 ⟨rfl, rfl⟩
        go_wp2_with fail
        refine HA.out.mono ?_
        rintro e w3 ⟨rfl, t⟩
        have HT := Lib.hid t
        clear t
        go_wp2_with fail
        go_ret
        exact ⟨rfl, HT.out⟩
      | true =>
        go_enter Tryz.func15, Tryz.ntmps15
        go_wp2_with fail
        refine HL.out.mono ?_
        rintro e w2 ⟨rfl, rfl⟩
        go_wp2_with fail
        refine HB.out.mono ?_
        rintro e w2 ⟨rfl, rfl⟩
        go_wp2_with fail
        refine HA.out.mono ?_
        rintro e w3 ⟨rfl, t⟩
        have HT := Lib.hid t
        clear t
        go_wp2_with fail
        refine (HN _).out.mono ?_
        rintro e w4 ⟨rfl, rfl⟩
        go_wp2_with fail
        go_ret
        exact ⟨by cases z <;> rfl, HT.out⟩
theorem parentL_actor {l : Bs} (h : actorL l = true) : parentL l = match lastC 46 l with
    | some (a, _) => a
    | none => [] := by
  unfold parentL
  rw [actor_no_chan h, if_neg (by decide), if_pos h]
  rfl
theorem parentL_chan {l : Bs} (h : chanL l = true) : parentL l = match lastC 43 l with
    | some (a, _) => a
    | none => [] := by
  unfold parentL
  rw [if_pos h]
  rfl
theorem parentL_no {l : Bs} (h : chanL l = false) (h2 : actorL l = false) : parentL l = [] := by
  unfold parentL
  rw [h, h2, if_neg (by decide), if_neg (by decide)]
set_option maxRecDepth 100000 in
set_option maxHeartbeats 8000000 in
theorem refParent_any {l : Bs} (hl : l.length ≤ 4000000) (w : World) : Calls Tryz.prog 17 #[.string (BT l)] w fun e w' => e = .returned (.string (BT (parentL l))) ∧ Turn Nn w w' := by
  have HA := Lib.hid (refActor_any hl w)
  have HC := fun w => Lib.hid (refChan_any hl w)
  have HL := fun w => Lib.hid (refLast_any hl 43 w)
  have h43 : ((43 : UInt8).toNat : Int) = 43 := rfl
  rw [h43] at HL
  have HD := fun w => Lib.hid (refLast_any hl 46 w)
  have h46 : ((46 : UInt8).toNat : Int) = 46 := rfl
  rw [h46] at HD
  have hsz : (BT l).size = l.length := BT_size l
  obtain ⟨x, hx⟩ : ∃ x, actorL l = x := ⟨_, rfl⟩
  obtain ⟨y, hy⟩ : ∃ y, chanL l = y := ⟨_, rfl⟩
  rw [hx] at HA
  rw [hy] at HC
  cases x with
  | true =>
    rw [parentL_actor hx]
    cases hc : lastC 46 l with
    | none =>
      simp only [lastI_no hc] at HD
      obtain ⟨M, hM⟩ : ∃ M, BT l = M := ⟨_, rfl⟩
      rw [hM] at HA HD ⊢
      clear hM hx hy hc HC HL h43 h46 hsz
      go_enter Tryz.func17, Tryz.ntmps17
      go_wp2_with fail
      refine HA.out.mono ?_
      rintro e w2 ⟨rfl, t⟩
      have HT := Lib.hid t
      clear t
      go_wp2_with fail
      refine (HD _).out.mono ?_
      rintro e w3 ⟨rfl, rfl⟩
      go_wp2_with fail
      go_ret
      exact ⟨rfl, HT.out⟩
    | some p =>
      obtain ⟨a, r⟩ := p
      obtain ⟨hi, he⟩ := lastI_some hc
      rw [hi] at HD
      have hla : a.length + 1 + r.length = l.length := by rw [he]; simp; omega
      have hc1 : (BT l).extract 0 a.length = BT a := by rw [he]; exact BT_cat_take _ _
      obtain ⟨M, hM⟩ : ∃ M, BT l = M := ⟨_, rfl⟩
      obtain ⟨n, hn⟩ : ∃ n, a.length = n := ⟨_, rfl⟩
      rw [hM] at HA HD hc1 hsz ⊢
      rw [hn] at HD hc1 hla
      have hn1 : n + 1 ≤ M.size := by omega
      have hn2 : M.size ≤ 4000000 := by omega
      clear hM hx hy hc HC HL h43 h46 hsz hi he hla hn hl
      go_enter Tryz.func17, Tryz.ntmps17
      go_wp2_with fail
      refine HA.out.mono ?_
      rintro e w2 ⟨rfl, t⟩
      have HT := Lib.hid t
      clear t
      go_wp2_with fail
      refine (HD _).out.mono ?_
      rintro e w3 ⟨rfl, rfl⟩
      go_wp2_with fail
      go_ret
      exact ⟨rfl, HT.out⟩
  | false =>
    cases y with
    | false =>
      rw [parentL_no hy hx]
      obtain ⟨M, hM⟩ : ∃ M, BT l = M := ⟨_, rfl⟩
      rw [hM] at HA HC ⊢
      clear hM hx hy HD HL h43 h46 hsz
      go_enter Tryz.func17, Tryz.ntmps17
      go_wp2_with fail
      refine HA.out.mono ?_
      rintro e w2 ⟨rfl, t⟩
      have HT := Lib.hid t
      clear t
      go_wp2_with fail
      refine (HC _).out.mono ?_
      rintro e w3 ⟨rfl, t⟩
      have HT2 := Lib.hid (HT.out.trans t)
      clear t
      go_wp2_with fail
      go_ret
      exact ⟨rfl, HT2.out⟩
    | true =>
      rw [parentL_chan hy]
      cases hc : lastC 43 l with
      | none =>
        simp only [lastI_no hc] at HL
        obtain ⟨M, hM⟩ : ∃ M, BT l = M := ⟨_, rfl⟩
        rw [hM] at HA HC HL ⊢
        clear hM hx hy hc HD h43 h46 hsz
        go_enter Tryz.func17, Tryz.ntmps17
        go_wp2_with fail
        refine HA.out.mono ?_
        rintro e w2 ⟨rfl, t⟩
        have HT := Lib.hid t
        clear t
        go_wp2_with fail
        refine (HC _).out.mono ?_
        rintro e w3 ⟨rfl, t⟩
        have HT2 := Lib.hid (HT.out.trans t)
        clear t
        go_wp2_with fail
        refine (HL _).out.mono ?_
        rintro e w3 ⟨rfl, rfl⟩
        go_wp2_with fail
        go_ret
        exact ⟨rfl, HT2.out⟩
      | some p =>
        obtain ⟨a, r⟩ := p
        obtain ⟨hi, he⟩ := lastI_some hc
        rw [hi] at HL
        have hla : a.length + 1 + r.length = l.length := by rw [he]; simp; omega
        have hc1 : (BT l).extract 0 a.length = BT a := by rw [he]; exact BT_cat_take _ _
        obtain ⟨M, hM⟩ : ∃ M, BT l = M := ⟨_, rfl⟩
        obtain ⟨n, hn⟩ : ∃ n, a.length = n := ⟨_, rfl⟩
        rw [hM] at HA HC HL hc1 hsz ⊢
        rw [hn] at HL hc1 hla
        have hn1 : n + 1 ≤ M.size := by omega
        have hn2 : M.size ≤ 4000000 := by omega
        clear hM hx hy hc HD h43 h46 hsz hi he hla hn hl
        go_enter Tryz.func17, Tryz.ntmps17
        go_wp2_with fail
        refine HA.out.mono ?_
        rintro e w2 ⟨rfl, t⟩
        have HT := Lib.hid t
        clear t
        go_wp2_with fail
        refine (HC _).out.mono ?_
        rintro e w3 ⟨rfl, t⟩
        have HT2 := Lib.hid (HT.out.trans t)
        clear t
        go_wp2_with fail
        refine (HL _).out.mono ?_
        rintro e w3 ⟨rfl, rfl⟩
        go_wp2_with fail
        go_ret
        exact ⟨rfl, HT2.out⟩
end
section
open Go.RowKit

theorem chanL_nil : chanL [] = false := by rfl
theorem endL_short {l : Bs} (h : l.length < 3) : endL l = none := by
  unfold endL
  have : l.length - 2 = 0 := by omega
  rw [this, List.take_zero, chanL_nil]
  simp
theorem endL_shape {l : Bs} {x y : UInt8} {c : Bs} (h : l = c ++ [x, y]) : endL l = if x = 58 ∧ (y = 48 ∨ y = 49) ∧ chanL c = true then some (c, y.toNat - 48) else none := by
  have h1 : l.length - 2 = c.length := by rw [h]; simp
  have h2 : l.take c.length = c := by rw [h]; exact List.take_left' rfl
  have h3 : l.drop c.length = [x, y] := by rw [h]; exact List.drop_left' rfl
  unfold endL
  rw [h1, h2, h3]
  by_cases hx : x = 58
  · subst hx
    by_cases hy : y = 48
    · subst hy
      cases chanL c <;> simp
    · by_cases hy1 : y = 49
      · subst hy1
        cases chanL c <;> simp
      · simp [hy, hy1]
  · simp [hx]
theorem two_last {l : Bs} (h : 3 ≤ l.length) : ∃ c x y, l = c ++ [x, y] := by
  refine ⟨l.take (l.length - 2), l[l.length - 2], l[l.length - 1], ?_⟩
  conv => lhs; rw [← List.take_append_drop (l.length - 2) l]
  congr 1
  rw [List.drop_eq_getElem_cons (by omega)]
  have e : l.length - 2 + 1 = l.length - 1 := by omega
  simp only [e]
  rw [List.drop_eq_getElem_cons (by omega), List.drop_of_length_le (by omega)]
/-- What End hands back. -/
def endA (l : Bs) : Array Value := match endL l with
  | some (c, n) => #[.string (BT c), .int .i64 (n : Int), .bool true]
  | none => #[.string ⟨#[]⟩, .int .i64 0, .bool false]
theorem endA_none {l : Bs} (h : endL l = none) : endA l = #[.string ⟨#[]⟩, .int .i64 0, .bool false] := by unfold endA; rw [h]
theorem endA_some {l c : Bs} {n : Nat} (h : endL l = some (c, n)) : endA l = #[.string (BT c), .int .i64 (n : Int), .bool true] := by unfold endA; rw [h]
theorem u8_beq (x : UInt8) (k : UInt8) : ((x.toNat : Int) == (k.toNat : Int)) = decide (x = k) := by
  rw [Bool.eq_iff_iff, beq_iff_eq, decide_eq_true_eq]
  constructor
  · intro e; apply UInt8.toNat_inj.1; omega
  · rintro rfl; rfl
set_option maxRecDepth 100000 in
set_option maxHeartbeats 8000000 in
theorem refEnd_any {l : Bs} (hl : l.length ≤ 4000000) (w : World) : Calls Tryz.prog 11 #[.string (BT l)] w fun e w' => e = .returned (.tuple (endA l)) ∧ Turn Nn w w' := by
  obtain ⟨M, hM⟩ : ∃ M, BT l = M := ⟨_, rfl⟩
  have hsz : M.size = l.length := by rw [← hM, BT_size]
  by_cases h3 : l.length < 3
  · rw [endA_none (endL_short h3), hM]
    have h : M.size < 3 := by omega
    clear hM hsz h3
    go_enter Tryz.func11, Tryz.ntmps11
    go_wp2_with fail
    go_ret3
    exact ⟨rfl, Turn.refl _ _⟩
  obtain ⟨c, x, y, he⟩ := two_last (l := l) (by omega)
  have hll : l.length = c.length + 2 := by rw [he]; simp
  have hx : ∀ w, (Instr.index 9 (.string M) (.int .i64 (c.length : Nat))).run Tryz.prog w = .ok (.int .u8 (x.toNat : Int)) w := fun w => by
    have := BT_at (s := l) (k := c.length) (by omega) w
    rw [hM] at this
    rw [this]
    simp [he]
  have hy : ∀ w, (Instr.index 9 (.string M) (.int .i64 ((c.length + 1 : Nat) : Int))).run Tryz.prog w = .ok (.int .u8 (y.toNat : Int)) w := fun w => by
    have := BT_at (s := l) (k := c.length + 1) (by omega) w
    rw [hM] at this
    rw [this]
    simp [he]
  have hcut : M.extract 0 c.length = BT c := by rw [← hM, he]; exact BT_cat_take _ _
  have HC := Lib.hid (refChan_any (l := c) (by omega) w)
  have hes := endL_shape he
  have ex := u8_beq x 58
  have ey := u8_beq y 48
  have ez := u8_beq y 49
  have n58 : ((58 : UInt8).toNat : Int) = 58 := rfl
  have n48 : ((48 : UInt8).toNat : Int) = 48 := rfl
  have n49 : ((49 : UInt8).toNat : Int) = 49 := rfl
  rw [n58] at ex; rw [n48] at ey; rw [n49] at ez
  obtain ⟨k, hk⟩ : ∃ k, c.length = k := ⟨_, rfl⟩
  rw [hk] at hx hy hcut hll
  have i2 : M.size = k + 2 := by omega
  have i4 : k ≤ 4000000 := by omega
  have i5 : ¬ ((k : Int) + 2 < 3) := by omega
  have hy : ∀ w, (Instr.index 9 (.string M) (.int .i64 ((k : Int) + 2 - 1))).run Tryz.prog w = .ok (.int .u8 (y.toNat : Int)) w := fun w => by
    have e : ((k : Int) + 2 - 1) = ((k + 1 : Nat) : Int) := by omega
    rw [e]; exact hy w
  rw [hM]
  obtain ⟨E, hE⟩ : ∃ E, endA l = E := ⟨_, rfl⟩
  rw [hE]
  have HE := Lib.hid hE
  have key : ∀ b, chanL c = b → Calls Tryz.prog 11 #[.string M] w fun e w' => e = .returned (.tuple E) ∧ Turn Nn w w' := by
    intro b hb
    rw [hb] at HC
    by_cases h1 : x = 58
    · by_cases h2 : y = 48 ∨ y = 49
      · have hyr : ∃ q : Nat, q ≤ 1 ∧ (y.toNat : Int) = 48 + (q : Int) := by
          rcases h2 with rfl | rfl
          · exact ⟨0, by omega, rfl⟩
          · exact ⟨1, by omega, rfl⟩
        cases b with
        | false =>
          have hE2 := endA_none (l := l) (by rw [hes, hb]; simp)
          rw [hE] at hE2
          subst hE2
          rcases h2 with rfl | rfl
          · rw [h1] at hx
            rw [n58] at hx
            rw [n48] at hy
            clear hM hsz hll hk hes hE HE hyr ex ey ez n58 n48 n49 h1 h3 hl hb he
            go_enter Tryz.func11, Tryz.ntmps11
            go_wp2_with fail
            refine HC.out.mono ?_
            rintro e w2 ⟨rfl, t⟩
            have HT := Lib.hid t
            clear t
            go_wp2_with fail
            go_ret3
            exact ⟨rfl, HT.out⟩
          · rw [h1] at hx
            rw [n58] at hx
            rw [n49] at hy
            clear hM hsz hll hk hes hE HE hyr ex ey ez n58 n48 n49 h1 h3 hl hb he
            go_enter Tryz.func11, Tryz.ntmps11
            go_wp2_with fail
            refine HC.out.mono ?_
            rintro e w2 ⟨rfl, t⟩
            have HT := Lib.hid t
            clear t
            go_wp2_with fail
            go_ret3
            exact ⟨rfl, HT.out⟩
        | true =>
          have hE2 := endA_some (l := l) (by rw [hes, hb, if_pos ⟨h1, h2, rfl⟩])
          rw [hE] at hE2
          subst hE2
          rcases h2 with rfl | rfl
          · rw [h1] at hx
            rw [n58] at hx
            rw [n48] at hy
            clear hM hsz hll hk hes hE HE hyr ex ey ez n58 n48 n49 h1 h3 hl hb he
            go_enter Tryz.func11, Tryz.ntmps11
            go_wp2_with fail
            refine HC.out.mono ?_
            rintro e w2 ⟨rfl, t⟩
            have HT := Lib.hid t
            clear t
            go_wp2_with fail
            go_quiet (fail)
            go_wp2_with fail
            go_ret3
            exact ⟨rfl, (HT.out.drewN _)⟩
          · rw [h1] at hx
            rw [n58] at hx
            rw [n49] at hy
            clear hM hsz hll hk hes hE HE hyr ex ey ez n58 n48 n49 h1 h3 hl hb he
            go_enter Tryz.func11, Tryz.ntmps11
            go_wp2_with fail
            refine HC.out.mono ?_
            rintro e w2 ⟨rfl, t⟩
            have HT := Lib.hid t
            clear t
            go_wp2_with fail
            go_quiet (fail)
            go_wp2_with fail
            go_ret3
            exact ⟨rfl, (HT.out.drewN _)⟩
      · have hE2 := endA_none (l := l) (by rw [hes, if_neg (fun h => h2 h.2.1)])
        rw [hE] at hE2
        subst hE2
        rw [decide_eq_false (fun h => h2 (.inl h)), beq_eq_false_iff_ne] at ey
        rw [decide_eq_false (fun h => h2 (.inr h)), beq_eq_false_iff_ne] at ez
        rw [h1] at hx
        rw [n58] at hx
        clear hM hsz hll hk hes hE HE ex n58 n48 n49 h1 h3 hl hb he h2 HC hcut
        go_enter Tryz.func11, Tryz.ntmps11
        go_wp2_with fail
        go_ret3
        exact ⟨rfl, Turn.refl _ _⟩
    · have hE2 := endA_none (l := l) (by rw [hes, if_neg (fun h => h1 h.1)])
      rw [hE] at hE2
      subst hE2
      rw [decide_eq_false h1, beq_eq_false_iff_ne] at ex
      clear hM hsz hll hk hes hE HE ey ez n58 n48 n49 h1 h3 hl hb he HC hcut hy
      go_enter Tryz.func11, Tryz.ntmps11
      go_wp2_with fail
      go_ret3
      exact ⟨rfl, Turn.refl _ _⟩
  exact key _ rfl
end
end Go.Proofs.YtpbjblbeepbklaaGreatDoor
