/- Inside a round: in a region that draws its order an operation that yields one and the same value in every world of a kind may come first, where each operation that is carried out leads from such worlds to such worlds. -/
import Derived.OrdersIn
import Derived.OrdersHeld
import Derived.WalkKit
namespace Go.Proofs.YtjnllclpdllceaaGreatDoor
set_option linter.unusedSimpArgs false
set_option linter.unusedVariables false
open Go
section
variable {lf : Nat} {n : Nat} {P : Program} {ops : Array Oper} {Q : Exit → Act → World → Prop} {md : Region.Mode} {S : World → Prop}

/-- No operation defers. -/
def noDefer (ops : Array Oper) : Bool := ops.all fun o => match o.op with | .defer _ => false | _ => true
theorem noDefer_spec {ops : Array Oper} (h : noDefer ops = true) (j : Nat) (o : Oper) (ho : ops[j]? = some o) : ∀ c, o.op ≠ .defer c := by
  intro c e
  unfold noDefer at h
  rw [Array.all_eq_true] at h
  obtain ⟨hj, rfl⟩ := Array.getElem?_eq_some_iff.1 ho
  have := h j hj
  rw [e] at this
  cases this

/-- Each order that may be drawn, the kind S kept at each step. -/
def OrdersR (lf n : Nat) (P : Program) (md : Region.Mode) (ops : Array Oper) (Q : Exit → Act → World → Prop) (S : World → Prop) : Nat → Array Bool → Act → World → Prop
  | 0, l, a, w => Region.ready md ops l = [] ∧ Q .normal a w
  | k + 1, l, a, w => (Region.ready md ops l = [] → Q .normal a w) ∧
    ∀ i ∈ Region.ready md ops l, wpOpIn (Fence.wide.inRound lf) n P ops Q i (fun b v => S v ∧ OrdersR lf n P md ops Q S k (l.setIfInBounds i true) b v) a w

theorem OrdersR.any : ∀ (k : Nat) (l : Array Bool) (a : Act) (w : World), OrdersR lf n P md ops Q S k l a w → wpAnyIn (Fence.wide.inRound lf) n P md ops Q k l a w
  | 0, _, _, _, h => h
  | k + 1, _, _, _, h => ⟨h.1, fun i hi => wpOpIn_mono (fun b v hb => OrdersR.any k _ b v hb.2) (h.2 i hi)⟩

/-- It yields v in each world of the kind, and is about no function. -/
def SureR (P : Program) (ops : Array Oper) (S : World → Prop) (o : Oper) (v : Value) (a : Act) : Prop := YieldsIf P ops S o v a ∧ ∀ w, o.about P w a.eval = none

theorem SureR.step {i : Nat} {o : Oper} {v : Value} {a : Act} (hnd : ∀ c, o.op ≠ .defer c) (hi : ops[i]? = some o) (hy : SureR P ops S o v a) {K : Act → World → Prop} {w : World} (hw : S w) (h : K (a.put o.dst v) w) : wpOpIn (Fence.wide.inRound lf) n P ops Q i K a w := by
  have hab : ∀ f, o.about P w a.eval = some f → (Fence.wide.inRound lf).fn f := fun _ _ => trivial
  unfold wpOpIn
  simp only [hi]
  rcases hy.1 with ⟨hx, hv⟩ | ⟨hx, rfl⟩
  · rw [if_pos hx]
    unfold Oper.wpIn
    refine ⟨hab, ?_⟩
    rw [show (Fence.wide.inRound lf).round = some lf from rfl, Oper.semAt_some _ _ _ hnd, hv w hw]
    exact h
  · rw [if_neg (by rw [hx]; simp)]
    exact ⟨hab, h⟩

theorem SureR.same {o : Oper} {v : Value} {a b : Act} (hy : SureR P ops S o v a) (he : execOp b.eval o = execOp a.eval o)
    (hw : Region.wanted o (yielded ops b.tmps) = Region.wanted o (yielded ops a.tmps)) (hb : ∀ w, o.about P w b.eval = o.about P w a.eval) : SureR P ops S o v b :=
  ⟨hy.1.of_same he hw, fun w => (hb w).trans (hy.2 w)⟩

/-- Another operation, apart from it, does not care. -/
theorem SureR.past {j : Nat} {oi oj : Oper} {v : Value} (hnd : ∀ c, oj.op ≠ .defer c) (hj : ops[j]? = some oj) (hap : oi.apart ops oj = true) (hsi : ∀ cs b, oi.op ≠ .select cs b) (hsj : ∀ cs b, oj.op ≠ .select cs b)
    (hQ : ∀ c a w, Q (.panic c) (a.put oi.dst v) w → Q (.panic c) a w) {K : Act → World → Prop} {a : Act} {w : World} (hy : SureR P ops S oi v a)
    (h : wpOpIn (Fence.wide.inRound lf) n P ops Q j K (a.put oi.dst v) w) : wpOpIn (Fence.wide.inRound lf) n P ops Q j (fun b u => SureR P ops S oi v b ∧ K (b.put oi.dst v) u) a w := by
  obtain ⟨p1, p2, p3⟩ := Oper.apart_spec hap
  have stays : ∀ u, SureR P ops S oi v (a.put oj.dst u) := fun u => hy.same (execOp_put oi hsi a oj.dst u p3) (wanted_put oi a oj.dst u p3) (fun w => about_put oi w a oj.dst u p3)
  have swap : ∀ u w', K ((a.put oi.dst v).put oj.dst u) w' → SureR P ops S oi v (a.put oj.dst u) ∧ K ((a.put oj.dst u).put oi.dst v) w' := fun u w' hk =>
    ⟨stays u, by rw [← Act.put_comm a v u p2]; exact hk⟩
  unfold wpOpIn at *
  simp only [hj] at *
  rw [wanted_put oj a oi.dst v p1, about_put oj w a oi.dst v p1] at h
  by_cases hx : Region.wanted oj (yielded ops a.tmps) = true
  · rw [if_pos hx] at h ⊢
    unfold Oper.wpIn at *
    rw [show (Fence.wide.inRound lf).round = some lf from rfl, Oper.semAt_some _ _ _ hnd] at *
    rw [execOp_put oj hsj a oi.dst v p1] at h
    rw [about_put oj w a oi.dst v p1] at h
    refine ⟨h.1, ?_⟩
    have h := h.2
    generalize (execOp a.eval oj).run P w = res at h ⊢
    cases res with
    | halt x w' =>
      cases x
      case panic u => exact hQ _ _ _ h
      all_goals exact h
    | ok x w' =>
      cases x
      case value u => exact swap u w' h
      case skip => exact swap undef w' h
      case defer d =>
        refine ⟨(hy.same rfl rfl (fun _ => rfl) : SureR P ops S oi v { a with defers := d :: a.defers }).same (execOp_put oi hsi _ oj.dst undef p3) (wanted_put oi _ oj.dst undef p3) (fun w => about_put oi w _ oj.dst undef p3), ?_⟩
        rw [← Act.put_comm _ v undef p2, ← Act.put_defers]
        exact h
      case enter f args =>
        refine ⟨h.1, CallsIn.mono h.2 fun e w'' he => ?_⟩
        cases e with
        | returned u => exact swap u _ he
        | panicked c => exact hQ _ _ _ he
        | outgrown => exact he
      case row r args => exact ⟨h.1, RowsIn.mono h.2 fun u w'' he => swap u _ he⟩
      case round l f tmps assign body =>
        refine ⟨h.1, RoundIn.mono h.2 fun e w'' he => ?_⟩
        cases e with
        | returned u => exact swap u _ he
        | panicked c => exact hQ _ _ _ he
        | outgrown => exact he
      all_goals exact h
  · rw [if_neg hx] at h ⊢
    exact ⟨h.1, swap undef w h.2⟩

theorem OrdersR.first {i : Nat} {oi : Oper} {v : Value} (hnd : ∀ (j : Nat) (o : Oper), ops[j]? = some o → ∀ c, o.op ≠ .defer c) (hi : ops[i]? = some oi) (hsel : ∀ (j : Nat) (o : Oper) cs b, ops[j]? = some o → o.op ≠ .select cs b)
    (hQ : ∀ c a w, Q (.panic c) (a.put oi.dst v) w → Q (.panic c) a w) : ∀ (k : Nat) (l : Array Bool) (a : Act) (w : World),
      (∀ j oj, ops[j]? = some oj → j ≠ i → l.getD j true = false → (∀ e ∈ oj.after, Region.binds md e = true → e.on ≠ i) → oi.apart ops oj = true) →
      i ∈ Region.ready md ops l → SureR P ops S oi v a → S w → OrdersR lf n P md ops Q S k (l.setIfInBounds i true) (a.put oi.dst v) w → OrdersR lf n P md ops Q S (k + 1) l a w := by
  intro k
  induction k with
  | zero =>
    intro l a w _ hr hy hS H
    refine ⟨fun h => absurd hr (by rw [h]; simp), fun j hj => ?_⟩
    by_cases hji : j = i
    · subst hji; exact hy.step (hnd _ _ hi) hi hS ⟨hS, H⟩
    · exact absurd (ready_mono hj hji) (by rw [H.1]; simp)
  | succ k ih =>
    intro l a w hfree hr hy hS H
    refine ⟨fun h => absurd hr (by rw [h]; simp), fun j hj => ?_⟩
    by_cases hji : j = i
    · subst hji; exact hy.step (hnd _ _ hi) hi hS ⟨hS, H⟩
    · obtain ⟨hun, oj, hoj, hall⟩ := mem_ready.1 hj
      have hno : ∀ e ∈ oj.after, Region.binds md e = true → e.on ≠ i := fun e he hb heq => by
        have q1 := hall e he hb
        have q0 := (mem_ready.1 hr).1
        rw [heq] at q1
        by_cases hsz : i < l.size
        · simp [hsz] at q0 q1; rw [q0] at q1; cases q1
        · simp [Array.getElem?_eq_none (Nat.le_of_not_lt hsz)] at q1
      refine wpOpIn_mono (fun b u hb => ⟨hb.2.1, ih (l.setIfInBounds j true) b u ?_ (ready_mono hr (Ne.symm hji)) hb.1 hb.2.1 ?_⟩)
        (SureR.past (hnd j oj hoj) hoj (hfree j oj hoj hji hun hno) (fun cs b => hsel i oi cs b hi) (fun cs b => hsel j oj cs b hoj) hQ hy (H.2 j (ready_mono hj hji)))
      · intro m om hm hmi hl hn
        refine hfree m om hm hmi ?_ hn
        by_cases hjm : j = m
        · subst hjm; exact hun
        · rw [getD_set_ne true hjm] at hl; exact hl
      · rw [Array.setIfInBounds_comm _ _ hji]
        exact hb.2.2

theorem OrdersR.take (i : Nat) (v : Value) {oi : Oper} {k : Nat} {l : Array Bool} {a : Act} {w : World} (hi : ops[i]? = some oi) (hd : noDefer ops = true) (hs : Region.noSelect ops = true) (hf : Region.free md ops l i = true)
    (hr : (Region.ready md ops l).contains i = true) (hQ : ∀ c a w, Q (.panic c) (a.put oi.dst v) w → Q (.panic c) a w) (hy : YieldsIf P ops S oi v a) (hb : ∀ w, oi.about P w a.eval = none) (hS : S w)
    (h : OrdersR lf n P md ops Q S k (l.setIfInBounds i true) (a.put oi.dst v) w) : OrdersR lf n P md ops Q S (k + 1) l a w :=
  OrdersR.first (noDefer_spec hd) hi (Region.noSelect_spec hs) hQ k l a w (Region.free_spec hi hf) (by simpa using hr) ⟨hy, hb⟩ hS h

/-- Two may come up. -/
theorem OrdersR.pair (i j : Nat) {oi oj : Oper} {k : Nat} {l : Array Bool} {a : Act} {w : World} (hr : Region.ready md ops l = [i, j]) (hi : ops[i]? = some oi) (hj : ops[j]? = some oj)
    (hxi : Region.wanted oi (yielded ops a.tmps) = true) (hxj : Region.wanted oj (yielded ops a.tmps) = true)
    (h1 : ∀ K : Act → World → Prop, (∀ b u, S u → OrdersR lf n P md ops Q S k (l.setIfInBounds i true) b u → K b u) → Oper.wpIn (Fence.wide.inRound lf) n P oi a w K Q)
    (h2 : ∀ K : Act → World → Prop, (∀ b u, S u → OrdersR lf n P md ops Q S k (l.setIfInBounds j true) b u → K b u) → Oper.wpIn (Fence.wide.inRound lf) n P oj a w K Q) : OrdersR lf n P md ops Q S (k + 1) l a w := by
  refine ⟨fun h0 => (by rw [hr] at h0; cases h0), fun t ht => ?_⟩
  rw [hr] at ht
  have ht : t = i ∨ t = j := by simpa using ht
  unfold wpOpIn
  rcases ht with rfl | rfl
  · simp only [hi]
    rw [if_pos hxi]
    exact h1 _ (fun b u h1 h2 => ⟨h1, h2⟩)
  · simp only [hj]
    rw [if_pos hxj]
    exact h2 _ (fun b u h1 h2 => ⟨h1, h2⟩)

/-- One alone may come up. -/
theorem OrdersR.one (i : Nat) {o : Oper} {k : Nat} {l : Array Bool} {a : Act} {w : World} (hr : Region.ready md ops l = [i]) (ho : ops[i]? = some o) (hx : Region.wanted o (yielded ops a.tmps) = true)
    (h : ∀ K : Act → World → Prop, (∀ b u, S u → OrdersR lf n P md ops Q S k (l.setIfInBounds i true) b u → K b u) → Oper.wpIn (Fence.wide.inRound lf) n P o a w K Q) : OrdersR lf n P md ops Q S (k + 1) l a w := by
  refine ⟨fun h0 => (by rw [hr] at h0; cases h0), fun j hj => ?_⟩
  rw [hr] at hj
  obtain rfl : j = i := by simpa using hj
  unfold wpOpIn
  simp only [ho]
  rw [if_pos hx]
  exact h _ (fun b u h1 h2 => ⟨h1, h2⟩)

theorem OrdersR.done {k : Nat} {l : Array Bool} {a : Act} {w : World} (hr : Region.ready md ops l = []) (h : Q .normal a w) : OrdersR lf n P md ops Q S k l a w := by
  cases k with
  | zero => exact ⟨hr, h⟩
  | succ k => exact ⟨fun _ => h, fun i hi => (by rw [hr] at hi; cases hi)⟩

theorem wpIn_regionR (S : World → Prop) {id : Nat} {a : Act} {w : World} (hm : P.follows .mixedOrders = true)
    (h : OrdersR lf n P .any ops Q S ops.size (Array.replicate ops.size false) a w.drew) : (Code.region id ops true).wpIn (Fence.wide.inRound lf) n P Q a w :=
  wpIn_region_any hm (OrdersR.any _ _ _ _ h)
end
end Go.Proofs.YtjnllclpdllceaaGreatDoor
