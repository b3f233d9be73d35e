/- A region that draws its order, outside a fence: one operation alone may come up. -/
import Derived.OrdersHeld
import Derived.WalkKit
namespace Go.Proofs.YtjnllclpdllceaaGreatDoor
set_option linter.unusedSimpArgs false
set_option linter.unusedVariables false
open Go
variable {P : Program} {ops : Array Oper} {Q : Exit → Act → World → Prop} {md : Region.Mode} {S : World → Prop}

theorem held_one (i : Nat) {o : Oper} {k : Nat} {l : Array Bool} {a : Act} {w : World} (hr : Region.ready md ops l = [i]) (ho : ops[i]? = some o) (hx : Region.wanted o (yielded ops a.tmps) = true)
    (h : ∀ K : Act → World → Prop, (∀ b u, S u → wpAnyH P md ops Q S k (l.setIfInBounds i true) b u → K b u) → Oper.wp P o a w K Q) : wpAnyH P md ops Q S (k + 1) l a w := by
  refine ⟨fun h0 => (by rw [hr] at h0; cases h0), fun j hj => ?_⟩
  rw [hr] at hj
  obtain rfl : j = i := by simpa using hj
  unfold wpOp
  simp only [ho]
  rw [if_pos hx]
  exact Or.inl (h _ (fun b u h1 h2 => ⟨h1, h2⟩))

theorem held_take (i : Nat) (v : Value) {oi : Oper} {k : Nat} {l : Array Bool} {a : Act} {w : World} (hi : ops[i]? = some oi) (hs : Region.noSelect ops = true) (hf : Region.free md ops l i = true)
    (hr : (Region.ready md ops l).contains i = true) (hQ : ∀ c a w, Q (.panic c) (a.put oi.dst v) w → Q (.panic c) a w) (hy : YieldsIf P ops S oi v a) (hS : S w)
    (h : wpAnyH P md ops Q S k (l.setIfInBounds i true) (a.put oi.dst v) w) : wpAnyH P md ops Q S (k + 1) l a w :=
  wpAnyH_take hi hs hf hr hQ hy hS h

theorem held_begin (S : World → Prop) {id : Nat} {a : Act} {w : World} (hm : P.follows .mixedOrders = true)
    (h : wpAnyH P .any ops Q S ops.size (Array.replicate ops.size false) a w.drew) : (Code.region id ops true).wp P Q a w :=
  wp_region_held hm h
/-- append, by the equation of its run, as one operation. -/
theorem oper_append_eq {P : Program} {w : World} {o : Oper} {a : Act} {K : Act → World → Prop} {Q : Exit → Act → World → Prop}
    (s x : Operand) (t : TypeId) (hop : o.op = Op.call { callee := Callee.builtin Builtin.append, args := #[s, x], argTypes := #[t, t] })
    (v u : Value) (hs : a.eval s = v) (hx : a.eval x = u) {r : Value} {W' : World} (hrun : (Builtin.append_ #[t, t] o.type #[v, u]).run P w = .ok r W')
    (hK : K (a.put o.dst r) W') : o.wp P a w K Q := by
  unfold Oper.wp
  simp [execOp, hop, resolve, invoke, builtin, hs, hx, hrun, Result.andThen]
  exact hK

/-- append, by the equation of its run. -/
theorem wpList_append_eq {P : Program} {w : World} {ops : Array Oper} {rest : List Oper} {o : Oper} {a : Act} {Q : Exit → Act → World → Prop}
    (hg : o.guard = none) (s x : Operand) (t : TypeId) (hop : o.op = Op.call { callee := Callee.builtin Builtin.append, args := #[s, x], argTypes := #[t, t] })
    (v u : Value) (hs : a.eval s = v) (hx : a.eval x = u) {r : Value} {W' : World} (hrun : (Builtin.append_ #[t, t] o.type #[v, u]).run P w = .ok r W')
    (hK : wpList P ops Q rest (a.put o.dst r) W') : wpList P ops Q (o :: rest) a w := by
  refine wpList_plain hg fun K hK' => ?_
  unfold Oper.wp
  simp [execOp, hop, resolve, invoke, builtin, hs, hx, hrun, Result.andThen]
  exact hK' _ _ hK

theorem held_pair {P : Program} {ops : Array Oper} {Q : Exit → Act → World → Prop} {md : Region.Mode} {S : World → Prop} (i j : Nat) {oi oj : Oper} {k : Nat} {l : Array Bool} {a : Act} {w : World} (hr : Region.ready md ops l = [i, j]) (hi : ops[i]? = some oi) (hj : ops[j]? = some oj)
    (hxi : Region.wanted oi (yielded ops a.tmps) = true) (hxj : Region.wanted oj (yielded ops a.tmps) = true)
    (h1 : ∀ K : Act → World → Prop, (∀ b u, S u → wpAnyH P md ops Q S k (l.setIfInBounds i true) b u → K b u) → Oper.wp P oi a w K Q)
    (h2 : ∀ K : Act → World → Prop, (∀ b u, S u → wpAnyH P md ops Q S k (l.setIfInBounds j true) b u → K b u) → Oper.wp P oj a w K Q) : wpAnyH P md ops Q S (k + 1) l a w := by
  refine ⟨fun h0 => (by rw [hr] at h0; cases h0), fun t ht => ?_⟩
  rw [hr] at ht
  have ht : t = i ∨ t = j := by simpa using ht
  unfold wpOp
  rcases ht with rfl | rfl
  · simp only [hi]
    rw [if_pos hxi]
    exact Or.inl (h1 _ (fun b u h1 h2 => ⟨h1, h2⟩))
  · simp only [hj]
    rw [if_pos hxj]
    exact Or.inl (h2 _ (fun b u h1 h2 => ⟨h1, h2⟩))

end Go.Proofs.YtjnllclpdllceaaGreatDoor
