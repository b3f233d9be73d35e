/- The document's table: Put. -/
import Derived.Test.YtjnekmdocbmofaaRi
namespace Go.Proofs.Ytjnekmdocbmofaa
set_option linter.unusedSimpArgs false
set_option linter.unusedVariables false
open Go.RowKit Go.Shelf

variable {w w' : World} {rb sb n m : Nat} {cs : List (Option Ch)} {cur cur' : Array Value} {vs : Nat → Bool → Value}

/-- append, by the equation of its run, as one operation. -/
theorem oper_append_eq {P : Program} {w : World} {o : Oper} {a : Act} {K : Act → World → Prop} {Q : Exit → Act → World → Prop}
    (s x : Operand) (t : TypeId) (hop : o.op = Op.call { callee := Callee.builtin Builtin.append, args := #[s, x], argTypes := #[t, t] })
    (v u : Value) (hs : a.eval s = v) (hx : a.eval x = u) {r : Value} {W' : World} (hrun : (Builtin.append_ #[t, t] o.type #[v, u]).run P w = .ok r W')
    (hK : K (a.put o.dst r) W') : o.wp P a w K Q := by
  unfold Oper.wp
  simp [execOp, hop, resolve, invoke, builtin, hs, hx, hrun, Result.andThen]
  exact hK

def SRef (rb sb n : Nat) (u : World) : Prop := u.cell? ⟨rb, 0, none⟩ = some (.slice (some ⟨sb, 0, none⟩) n n)

theorem held_pair {P : Program} {ops : Array Oper} {Q : Exit → Act → World → Prop} {md : Region.Mode} {S : World → Prop} (i j : Nat) {oi oj : Oper} {k : Nat} {l : Array Bool} {a : Act} {w : World} (hr : Region.ready md ops l = [i, j]) (hi : ops[i]? = some oi) (hj : ops[j]? = some oj)
    (hxi : Region.wanted oi (yielded ops a.tmps) = true) (hxj : Region.wanted oj (yielded ops a.tmps) = true)
    (h1 : ∀ K : Act → World → Prop, (∀ b u, S u → wpAnyH P md ops Q S k (l.setIfInBounds i true) b u → K b u) → Oper.wp P oi a w K Q)
    (h2 : ∀ K : Act → World → Prop, (∀ b u, S u → wpAnyH P md ops Q S k (l.setIfInBounds j true) b u → K b u) → Oper.wp P oj a w K Q) : wpAnyH P md ops Q S (k + 1) l a w := by
  refine ⟨fun h0 => (by rw [hr] at h0; cases h0), fun t ht => ?_⟩
  rw [hr] at ht
  have ht : t = i ∨ t = j := by simpa using ht
  unfold wpOp
  rcases ht with rfl | rfl
  · simp only [hi]
    rw [if_pos hxi]
    exact Or.inl (h1 _ (fun b u h1 h2 => ⟨h1, h2⟩))
  · simp only [hj]
    rw [if_pos hxj]
    exact Or.inl (h2 _ (fun b u h1 h2 => ⟨h1, h2⟩))

theorem refCanPut_q (h : RefTab w rb sb n m cs cur vs) (e : Int) {b : Bool} (hb : canPutA cs m e = b) :
    Calls Try.prog 52 #[.pointer (some ⟨rb, 0, none⟩), .int .i64 e] w fun r w' => r = .returned (.bool b) ∧ ∃ k, w' = w.drewN k := by
  rw [← hb]; exact refCanPut_any h e

theorem RefGoes.from {cs' : List (Option Ch)} (h : RefGoes w w' rb sb n m cs cs' vs) {w0 : World} (t : Turn Nn w0 w) (hs : w0.heap.size ≤ w.heap.size) : RefGoes w0 w' rb sb n m cs cs' vs := by
  obtain ⟨⟨c2, v2, h1, h2⟩, t2⟩ := h
  exact ⟨⟨c2, v2, h1, fun k hk => (h2 k hk).elim .inl (fun h => .inr (Nat.le_trans hs h))⟩, (t.mono (fun _ h => h.elim)).trans t2⟩

set_option maxRecDepth 100000 in
set_option maxHeartbeats 4000000 in
theorem refPut_any (h : RefTab w rb sb n m cs cur vs) {e x z : Int} {cs' : List (Option Ch)} (hz : putT cs m e x = (z, cs')) :
    Calls Try.prog 30 #[.pointer (some ⟨rb, 0, none⟩), .int .i64 e, .int .i64 x] w fun r w' => r = .returned (.int .i64 z) ∧ RefGoes w w' rb sb n m cs cs' vs := by
  cases ho : openA cs e with
  | false =>
    have E : Hid (z = 24 ∧ cs' = cs) := Lib.hid (by
      unfold putT at hz
      cases hs : sideOf cs e with
      | none => rw [hs] at hz; simp at hz; exact ⟨hz.1.symm, hz.2.symm⟩
      | some y => obtain ⟨i, s, c⟩ := y; rw [open_some hs] at ho; rw [hs] at hz; simp [ho] at hz; exact ⟨hz.1.symm, hz.2.symm⟩)
    rw [E.out.1, E.out.2]
    have HQ := Lib.hid (refOpen_e h e ho)
    have HT := Lib.hid h
    clear h ho hz E
    go_enter Try.func30, Try.ntmps30
    go_wp2_with fail
    refine HQ.out.mono ?_
    rintro r w' ⟨rfl, rfl⟩
    go_wp2_with fail
    go_ret
    exact ⟨rfl, RefGoes.same HT.out (Turn.refl _ _)⟩
  | true =>
    obtain ⟨i, s, c, hs, hoc⟩ := open_side ho
    obtain ⟨g1, g2, g3, g4, g5, g6, g7, g8⟩ := side_nums hs (by have := h.n64; have := h.len; omega)
    unfold putT at hz
    rw [hs] at hz
    simp only [hoc, if_true] at hz
    have HQ := Lib.hid (refOpen_e h e ho)
    obtain ⟨hsl, hle⟩ := (h.ch i c g2).2.2.2.2 s
    by_cases hl : (c.l s).length = m
    · rw [if_pos hl] at hz
      simp only [Prod.mk.injEq] at hz
      obtain ⟨rfl, rfl⟩ := hz
      have HC := Lib.hid (refCanPut_q h e (b := false) (by unfold canPutA; rw [hs]; simp [hl]))
      have HT := Lib.hid h
      clear h ho hl hs hoc g1 g2 g3 g4 g5 g6 g7 g8 hsl hle
      go_enter Try.func30, Try.ntmps30
      go_wp2_with fail
      refine HQ.out.mono ?_
      rintro r w' ⟨rfl, rfl⟩
      go_wp2_with fail
      refine HC.out.mono ?_
      rintro r w' ⟨rfl, k, rfl⟩
      go_wp2_with fail
      go_ret
      exact ⟨rfl, RefGoes.same HT.out ((Turn.refl _ _).drewN k)⟩
    · rw [if_neg hl] at hz
      simp only [Prod.mk.injEq] at hz
      obtain ⟨rfl, rfl⟩ := hz
      have hlt : (c.l s).length < m := by omega
      have HC := Lib.hid (refCanPut_q h e (b := true) (by unfold canPutA; rw [hs]; simp [hoc, hlt]))
      have hn := h.n64
      have hm16 := h.m16
      have g9 : (i : Int) < (n : Int) := by have := h.len; omega
      have HT := Lib.hid h
      have HL := Lib.hid hlt
      have HSL := Lib.hid hsl
      have HG2 := Lib.hid g2
      have g8t := Int.tmod_eq_emod_of_nonneg (b := 2) g5
      rw [g8] at g8t
      have hsr : sb < rb := h.sr
      clear h ho hl hs hoc g1 g2 g6 g7 hsl hle hlt
      go_enter Try.func30, Try.ntmps30
      go_wp2_with fail
      refine HQ.out.mono ?_
      rintro r w' ⟨rfl, rfl⟩
      go_wp2_with fail
      refine HC.out.mono ?_
      rintro r w' ⟨rfl, k, rfl⟩
      go_wp2_with fail
      obtain ⟨wd, hwd⟩ : ∃ wd, (w.drewN k).drew = wd := ⟨_, rfl⟩
      have hT1 : RefTab wd rb sb n m cs cur vs := by rw [← hwd]; exact (HT.out.drewN k).drew
      have hws : wd.heap.size = w.heap.size := by rw [← hwd]; rfl
      have twd : Turn Nn w wd := by rw [← hwd]; exact ((Turn.refl _ _).drewN k).drew
      have HWD := Lib.hid hwd
      obtain ⟨W0, hW0⟩ : ∃ W0, wd.alloc (.cells #[.int .i64 x] 2) = W0 := ⟨_, rfl⟩
      have t0 : Turn Nn w W0 := by rw [← hW0]; exact twd.alloc _
      have hB : W0.heap[wd.heap.size]? = some (.cells #[.int .i64 x] 2) := by rw [← hW0]; exact World.alloc_heap_new wd _
      have hT0 := HT.out.turn t0 (fun _ h => h.elim)
      obtain ⟨hsl, hle⟩ := (hT0.ch i c HG2.out).2.2.2.2 s
      obtain ⟨v', W', hrun, hsl2, hT, hb⟩ := append_run2 (x := x) hsl (by have := HL.out; omega) (heap_lt hT0.tab) hB 35
      have hgo := hT0.setq HG2.out s (w1 := W') (v' := v') (L' := c.l s ++ [x]) hT hsl2 (by rw [List.length_append]; have := HL.out; simp; omega) (fun k hk => by
        rcases hb with hb | ⟨k2, hb, hge⟩
        · exact .inl (by rw [← hb]; exact hk)
        · rw [hb] at hk; cases hk; exact .inr hge)
      have HG := Lib.hid (RefGoes.from hgo t0 t0.size)
      have hblt : ∀ k, blkOf (vs i s) = some k → rb < k := fun k hk => (hsl.blt hk).2
      obtain ⟨v, hv⟩ : ∃ v, vs i s = v := ⟨_, rfl⟩
      have hcv := hT0.cv HG2.out s
      have hcv1 := hT1.cv HG2.out s
      have hc0 := hT0.c0
      have hc1 := hT1.c0
      have hfz : W'.frozen? ⟨sb, i * 5 + 3 + zOf s, none⟩ = false := frozen_blk ((hT.block sb (heap_lt hT0.slots) (fun h => by have := hblt sb h; omega)).trans hT0.slots) _
      have hd0 : W'.cell? ⟨rb, 0, none⟩ = _ := (World.cell?_of_block (w := W0) (a := ⟨rb, 0, none⟩) (hT.block rb (heap_lt hT0.tab) (fun h => by have := hblt rb h; omega))).trans hc0
      have hd1 : W'.cell? ⟨sb, i * 5 + 3 + zOf s, none⟩ = _ := (World.cell?_of_block (w := W0) (a := ⟨sb, i * 5 + 3 + zOf s, none⟩) (hT.block sb (heap_lt hT0.slots) (fun h => by have := hblt sb h; omega))).trans hcv
      obtain ⟨pa, cap, hsh⟩ := hsl.shape
      obtain ⟨pb, cap2, hsh2⟩ := hsl2.shape
      rw [hsh] at hcv hcv1 hrun hd1
      rw [hsh2] at hrun HG
      obtain ⟨N, hN⟩ : ∃ N, (c.l s).length = N := ⟨_, rfl⟩
      obtain ⟨N2, hN2⟩ : ∃ N2, (c.l s ++ [x]).length = N2 := ⟨_, rfl⟩
      rw [hN] at hcv hcv1 hrun hd1
      rw [hN2] at hrun HG
      have HR := Lib.hid hrun
      have HSA : Hid (SRef rb sb n W0) := Lib.hid hc0
      have HSW : Hid (SRef rb sb n W') := Lib.hid hd0
      have HSF : Hid (∀ y, SRef rb sb n (W'.setCell ⟨sb, i * 5 + 3 + zOf s, none⟩ y)) := Lib.hid (fun y => (World.cell?_of_block (w := W') (a := ⟨rb, 0, none⟩) (Below.heap_setCell _ _ _ _ (by show rb ≠ sb; omega))).trans hd0)
      have HC1 := Lib.hid hcv1
      have HC2 := Lib.hid hcv
      have HD1 := Lib.hid hd1
      have hS : SRef rb sb n wd := hc1
      rw [← hW0] at HR HSA HC2
      clear hwd hws twd hT1 t0 hB hT0 hsl hle hsl2 hT hb hgo hblt hv hcv hcv1 hc0 hc1 hd0 hd1 hrun hW0 HQ HC HT HSL hN hN2 hsh hsh2
      cases s
      · simp only [zOf, if_true, if_false, Bool.false_eq_true, Nat.add_zero, Int.natCast_zero, Int.natCast_one] at g4 g8 g8t hfz HSF HC1 HC2 HD1 HG
        have g8 : e % 2 = 0 := g8
        have g4 : IntKind.i64.wrap (e.tmod 2) = 0 := g4
        have g8t : e.tmod 2 = 0 := g8t
        have hw2 : IntKind.i64.wrap 1 = 1 := by decide
        have hw3 : IntKind.i64.wrap 0 = 0 := by decide
        refine held_begin (SRef rb sb n) (by kernel_rfl) ?_
        rw [HWD.out]
        refine held_take 0 ?_ rfl (by kernel_rfl) (by kernel_rfl) (by kernel_rfl) (fun _ _ _ h => h) (Or.inl ⟨by kernel_rfl, ?_⟩) hS ?_
        rotate_left 1
        · intro u hu; have hu1 := hu; unfold SRef at hu1; go_simp; first | done | with_reducible rfl
        try simp only [Act.put, List.getElem_toArray, List.getElem_cons_succ, List.getElem_cons_zero, List.setIfInBounds_toArray, List.set_cons_succ, List.set_cons_zero]
        refine held_take 1 ?_ rfl (by kernel_rfl) (by kernel_rfl) (by kernel_rfl) (fun _ _ _ h => h) (Or.inl ⟨by kernel_rfl, ?_⟩) hS ?_
        rotate_left 1
        · intro u hu; have hu1 := hu; unfold SRef at hu1; go_simp; first | done | with_reducible rfl
        try simp only [Act.put, List.getElem_toArray, List.getElem_cons_succ, List.getElem_cons_zero, List.setIfInBounds_toArray, List.set_cons_succ, List.set_cons_zero]
        refine held_take 2 ?_ rfl (by kernel_rfl) (by kernel_rfl) (by kernel_rfl) (fun _ _ _ h => h) (Or.inl ⟨by kernel_rfl, ?_⟩) hS ?_
        rotate_left 1
        · intro u hu; have hu1 := hu; unfold SRef at hu1; go_simp; first | done | with_reducible rfl
        try simp only [Act.put, List.getElem_toArray, List.getElem_cons_succ, List.getElem_cons_zero, List.setIfInBounds_toArray, List.set_cons_succ, List.set_cons_zero]
        refine held_take 3 ?_ rfl (by kernel_rfl) (by kernel_rfl) (by kernel_rfl) (fun _ _ _ h => h) (Or.inl ⟨by kernel_rfl, ?_⟩) hS ?_
        rotate_left 1
        · intro u hu; have hu1 := hu; unfold SRef at hu1; go_simp; first | done | with_reducible rfl
        try simp only [Act.put, List.getElem_toArray, List.getElem_cons_succ, List.getElem_cons_zero, List.setIfInBounds_toArray, List.set_cons_succ, List.set_cons_zero]
        refine held_take 4 ?_ rfl (by kernel_rfl) (by kernel_rfl) (by kernel_rfl) (fun _ _ _ h => h) (Or.inl ⟨by kernel_rfl, ?_⟩) hS ?_
        rotate_left 1
        · intro u hu; have hu1 := hu; unfold SRef at hu1; go_simp; first | done | with_reducible rfl
        try simp only [Act.put, List.getElem_toArray, List.getElem_cons_succ, List.getElem_cons_zero, List.setIfInBounds_toArray, List.set_cons_succ, List.set_cons_zero]
        refine held_take 5 ?_ rfl (by kernel_rfl) (by kernel_rfl) (by kernel_rfl) (fun _ _ _ h => h) (Or.inl ⟨by kernel_rfl, ?_⟩) hS ?_
        rotate_left 1
        · intro u hu; have hu1 := hu; unfold SRef at hu1; go_simp; first | done | with_reducible rfl
        try simp only [Act.put, List.getElem_toArray, List.getElem_cons_succ, List.getElem_cons_zero, List.setIfInBounds_toArray, List.set_cons_succ, List.set_cons_zero]
        refine held_take 6 ?_ rfl (by kernel_rfl) (by kernel_rfl) (by kernel_rfl) (fun _ _ _ h => h) (Or.inl ⟨by kernel_rfl, ?_⟩) hS ?_
        rotate_left 1
        · intro u hu; have hu1 := hu; unfold SRef at hu1; go_simp; first | done | with_reducible rfl
        try simp only [Act.put, List.getElem_toArray, List.getElem_cons_succ, List.getElem_cons_zero, List.setIfInBounds_toArray, List.set_cons_succ, List.set_cons_zero]
        refine held_take 7 ?_ rfl (by kernel_rfl) (by kernel_rfl) (by kernel_rfl) (fun _ _ _ h => h) (Or.inl ⟨by kernel_rfl, ?_⟩) hS ?_
        rotate_left 1
        · intro u hu; have hu1 := hu; unfold SRef at hu1; go_simp; first | done | with_reducible rfl
        try simp only [Act.put, List.getElem_toArray, List.getElem_cons_succ, List.getElem_cons_zero, List.setIfInBounds_toArray, List.set_cons_succ, List.set_cons_zero]
        refine held_take 8 ?_ rfl (by kernel_rfl) (by kernel_rfl) (by kernel_rfl) (fun _ _ _ h => h) (Or.inl ⟨by kernel_rfl, ?_⟩) hS ?_
        rotate_left 1
        · intro u hu; have hu1 := hu; unfold SRef at hu1; go_simp; first | done | with_reducible rfl
        try simp only [Act.put, List.getElem_toArray, List.getElem_cons_succ, List.getElem_cons_zero, List.setIfInBounds_toArray, List.set_cons_succ, List.set_cons_zero]
        refine held_take 9 ?_ rfl (by kernel_rfl) (by kernel_rfl) (by kernel_rfl) (fun _ _ _ h => h) (Or.inl ⟨by kernel_rfl, ?_⟩) hS ?_
        rotate_left 1
        · intro u hu; have hu1 := hu; unfold SRef at hu1; go_simp; first | done | with_reducible rfl
        try simp only [Act.put, List.getElem_toArray, List.getElem_cons_succ, List.getElem_cons_zero, List.setIfInBounds_toArray, List.set_cons_succ, List.set_cons_zero]
        refine held_take 10 ?_ rfl (by kernel_rfl) (by kernel_rfl) (by kernel_rfl) (fun _ _ _ h => h) (Or.inl ⟨by kernel_rfl, ?_⟩) hS ?_
        rotate_left 1
        · intro u hu; have hu1 := hu; unfold SRef at hu1; go_simp; first | done | with_reducible rfl
        try simp only [Act.put, List.getElem_toArray, List.getElem_cons_succ, List.getElem_cons_zero, List.setIfInBounds_toArray, List.set_cons_succ, List.set_cons_zero]
        refine held_take 11 ?_ rfl (by kernel_rfl) (by kernel_rfl) (by kernel_rfl) (fun _ _ _ h => h) (Or.inl ⟨by kernel_rfl, ?_⟩) hS ?_
        rotate_left 1
        · intro u hu; have hu1 := hu; unfold SRef at hu1; go_simp; first | done | with_reducible rfl
        try simp only [Act.put, List.getElem_toArray, List.getElem_cons_succ, List.getElem_cons_zero, List.setIfInBounds_toArray, List.set_cons_succ, List.set_cons_zero]
        refine held_take 12 ?_ rfl (by kernel_rfl) (by kernel_rfl) (by kernel_rfl) (fun _ _ _ h => h) (Or.inl ⟨by kernel_rfl, ?_⟩) hS ?_
        rotate_left 1
        · intro u hu; have hu1 := hu; unfold SRef at hu1; go_simp; first | done | with_reducible rfl
        try simp only [Act.put, List.getElem_toArray, List.getElem_cons_succ, List.getElem_cons_zero, List.setIfInBounds_toArray, List.set_cons_succ, List.set_cons_zero]
        refine held_take 13 ?_ rfl (by kernel_rfl) (by kernel_rfl) (by kernel_rfl) (fun _ _ _ h => h) (Or.inl ⟨by kernel_rfl, ?_⟩) hS ?_
        rotate_left 1
        · intro u hu; have hu1 := hu; unfold SRef at hu1; go_simp; first | done | with_reducible rfl
        try simp only [Act.put, List.getElem_toArray, List.getElem_cons_succ, List.getElem_cons_zero, List.setIfInBounds_toArray, List.set_cons_succ, List.set_cons_zero]
        refine held_take 14 ?_ rfl (by kernel_rfl) (by kernel_rfl) (by kernel_rfl) (fun _ _ _ h => h) (Or.inl ⟨by kernel_rfl, ?_⟩) hS ?_
        rotate_left 1
        · intro u hu; have hu1 := hu; unfold SRef at hu1; go_simp; first | done | with_reducible rfl
        try simp only [Act.put, List.getElem_toArray, List.getElem_cons_succ, List.getElem_cons_zero, List.setIfInBounds_toArray, List.set_cons_succ, List.set_cons_zero]
        refine held_take 15 ?_ rfl (by kernel_rfl) (by kernel_rfl) (by kernel_rfl) (fun _ _ _ h => h) (Or.inl ⟨by kernel_rfl, ?_⟩) hS ?_
        rotate_left 1
        · intro u hu; have hu1 := hu; unfold SRef at hu1; go_simp; first | done | with_reducible rfl
        try simp only [Act.put, List.getElem_toArray, List.getElem_cons_succ, List.getElem_cons_zero, List.setIfInBounds_toArray, List.set_cons_succ, List.set_cons_zero]
        refine held_take 16 ?_ rfl (by kernel_rfl) (by kernel_rfl) (by kernel_rfl) (fun _ _ _ h => h) (Or.inl ⟨by kernel_rfl, ?_⟩) hS ?_
        rotate_left 1
        · intro u hu; have hu1 := hu; unfold SRef at hu1; go_simp; first | done | with_reducible rfl
        try simp only [Act.put, List.getElem_toArray, List.getElem_cons_succ, List.getElem_cons_zero, List.setIfInBounds_toArray, List.set_cons_succ, List.set_cons_zero]
        refine held_take 17 ?_ rfl (by kernel_rfl) (by kernel_rfl) (by kernel_rfl) (fun _ _ _ h => h) (Or.inl ⟨by kernel_rfl, ?_⟩) hS ?_
        rotate_left 1
        · intro u hu; have hu1 := hu; unfold SRef at hu1; go_simp; first | done | with_reducible rfl
        try simp only [Act.put, List.getElem_toArray, List.getElem_cons_succ, List.getElem_cons_zero, List.setIfInBounds_toArray, List.set_cons_succ, List.set_cons_zero]
        refine held_take 18 ?_ rfl (by kernel_rfl) (by kernel_rfl) (by kernel_rfl) (fun _ _ _ h => h) (Or.inl ⟨by kernel_rfl, ?_⟩) hS ?_
        rotate_left 1
        · intro u hu; have hu1 := hu; unfold SRef at hu1; go_simp; first | done | with_reducible rfl
        try simp only [Act.put, List.getElem_toArray, List.getElem_cons_succ, List.getElem_cons_zero, List.setIfInBounds_toArray, List.set_cons_succ, List.set_cons_zero]
        refine held_take 20 ?_ rfl (by kernel_rfl) (by kernel_rfl) (by kernel_rfl) (fun _ _ _ h => h) (Or.inl ⟨by kernel_rfl, ?_⟩) hS ?_
        rotate_left 1
        · intro u hu; have hu1 := hu; unfold SRef at hu1; go_simp; first | done | with_reducible rfl
        try simp only [Act.put, List.getElem_toArray, List.getElem_cons_succ, List.getElem_cons_zero, List.setIfInBounds_toArray, List.set_cons_succ, List.set_cons_zero]
        refine held_take 23 ?_ rfl (by kernel_rfl) (by kernel_rfl) (by kernel_rfl) (fun _ _ _ h => h) (Or.inl ⟨by kernel_rfl, ?_⟩) hS ?_
        rotate_left 1
        · intro u hu; have hu1 := hu; unfold SRef at hu1; go_simp; first | done | with_reducible rfl
        try simp only [Act.put, List.getElem_toArray, List.getElem_cons_succ, List.getElem_cons_zero, List.setIfInBounds_toArray, List.set_cons_succ, List.set_cons_zero]
        refine held_take 24 ?_ rfl (by kernel_rfl) (by kernel_rfl) (by kernel_rfl) (fun _ _ _ h => h) (Or.inl ⟨by kernel_rfl, ?_⟩) hS ?_
        rotate_left 1
        · intro u hu; have hu1 := hu; unfold SRef at hu1; go_simp; first | done | with_reducible rfl
        try simp only [Act.put, List.getElem_toArray, List.getElem_cons_succ, List.getElem_cons_zero, List.setIfInBounds_toArray, List.set_cons_succ, List.set_cons_zero]
        refine held_pair 19 21 (by kernel_rfl) rfl rfl (by kernel_rfl) (by kernel_rfl) (fun Ka hKa => ?_) (fun Ka hKa => ?_)
        · have hcl := HC1.out
          go_simp
          refine hKa _ _ hS ?_
          clear hKa Ka hcl
          try simp only [Act.put, List.getElem_toArray, List.getElem_cons_succ, List.getElem_cons_zero, List.setIfInBounds_toArray, List.set_cons_succ, List.set_cons_zero]
          refine held_one 21 (by kernel_rfl) rfl (by kernel_rfl) (fun Kd hKd => ?_)
          go_simp
          refine hKd _ _ HSA.out ?_
          clear hKd Kd
          try simp only [Act.put, List.getElem_toArray, List.getElem_cons_succ, List.getElem_cons_zero, List.setIfInBounds_toArray, List.set_cons_succ, List.set_cons_zero]
          refine held_one 22 (by kernel_rfl) rfl (by kernel_rfl) (fun Kb hKb => ?_)
          refine oper_append_eq _ _ 35 rfl _ _ rfl rfl HR.out ?_
          refine hKb _ _ HSW.out ?_
          clear hKb Kb
          try simp only [Act.put, List.getElem_toArray, List.getElem_cons_succ, List.getElem_cons_zero, List.setIfInBounds_toArray, List.set_cons_succ, List.set_cons_zero]
          refine held_take 25 ?_ rfl (by kernel_rfl) (by kernel_rfl) (by kernel_rfl) (fun _ _ _ h => h) (Or.inl ⟨by kernel_rfl, ?_⟩) HSW.out ?_
          rotate_left 1
          · intro u hu; have hu1 := hu; unfold SRef at hu1; go_simp; first | done | with_reducible rfl
          try simp only [Act.put, List.getElem_toArray, List.getElem_cons_succ, List.getElem_cons_zero, List.setIfInBounds_toArray, List.set_cons_succ, List.set_cons_zero]
          refine held_one 26 (by kernel_rfl) rfl (by kernel_rfl) (fun Kc hKc => ?_)
          have hd2 := HD1.out
          go_simp
          refine hKc _ _ (HSF.out _) ?_
          clear hKc Kc hd2
          try simp only [Act.put, List.getElem_toArray, List.getElem_cons_succ, List.getElem_cons_zero, List.setIfInBounds_toArray, List.set_cons_succ, List.set_cons_zero]
          refine wpAnyH_done (by kernel_rfl) ?_ _
          go_wp2_with fail
          go_ret
          exact ⟨rfl, HG.out⟩
        · go_simp
          refine hKa _ _ HSA.out ?_
          clear hKa Ka
          try simp only [Act.put, List.getElem_toArray, List.getElem_cons_succ, List.getElem_cons_zero, List.setIfInBounds_toArray, List.set_cons_succ, List.set_cons_zero]
          refine held_one 19 (by kernel_rfl) rfl (by kernel_rfl) (fun Kd hKd => ?_)
          have hcl := HC2.out
          go_simp
          refine hKd _ _ HSA.out ?_
          clear hcl
          clear hKd Kd
          try simp only [Act.put, List.getElem_toArray, List.getElem_cons_succ, List.getElem_cons_zero, List.setIfInBounds_toArray, List.set_cons_succ, List.set_cons_zero]
          refine held_one 22 (by kernel_rfl) rfl (by kernel_rfl) (fun Kb hKb => ?_)
          refine oper_append_eq _ _ 35 rfl _ _ rfl rfl HR.out ?_
          refine hKb _ _ HSW.out ?_
          clear hKb Kb
          try simp only [Act.put, List.getElem_toArray, List.getElem_cons_succ, List.getElem_cons_zero, List.setIfInBounds_toArray, List.set_cons_succ, List.set_cons_zero]
          refine held_take 25 ?_ rfl (by kernel_rfl) (by kernel_rfl) (by kernel_rfl) (fun _ _ _ h => h) (Or.inl ⟨by kernel_rfl, ?_⟩) HSW.out ?_
          rotate_left 1
          · intro u hu; have hu1 := hu; unfold SRef at hu1; go_simp; first | done | with_reducible rfl
          try simp only [Act.put, List.getElem_toArray, List.getElem_cons_succ, List.getElem_cons_zero, List.setIfInBounds_toArray, List.set_cons_succ, List.set_cons_zero]
          refine held_one 26 (by kernel_rfl) rfl (by kernel_rfl) (fun Kc hKc => ?_)
          have hd2 := HD1.out
          go_simp
          refine hKc _ _ (HSF.out _) ?_
          clear hKc Kc hd2
          try simp only [Act.put, List.getElem_toArray, List.getElem_cons_succ, List.getElem_cons_zero, List.setIfInBounds_toArray, List.set_cons_succ, List.set_cons_zero]
          refine wpAnyH_done (by kernel_rfl) ?_ _
          go_wp2_with fail
          go_ret
          exact ⟨rfl, HG.out⟩
      · simp only [zOf, if_true, if_false, Bool.false_eq_true, Nat.add_zero, Int.natCast_zero, Int.natCast_one] at g4 g8 g8t hfz HSF HC1 HC2 HD1 HG
        have g8 : e % 2 = 1 := g8
        have g4 : IntKind.i64.wrap (e.tmod 2) = 1 := g4
        have g8t : e.tmod 2 = 1 := g8t
        have hw2 : IntKind.i64.wrap 1 = 1 := by decide
        have hw3 : IntKind.i64.wrap 0 = 0 := by decide
        refine held_begin (SRef rb sb n) (by kernel_rfl) ?_
        rw [HWD.out]
        refine held_take 0 ?_ rfl (by kernel_rfl) (by kernel_rfl) (by kernel_rfl) (fun _ _ _ h => h) (Or.inl ⟨by kernel_rfl, ?_⟩) hS ?_
        rotate_left 1
        · intro u hu; have hu1 := hu; unfold SRef at hu1; go_simp; first | done | with_reducible rfl
        try simp only [Act.put, List.getElem_toArray, List.getElem_cons_succ, List.getElem_cons_zero, List.setIfInBounds_toArray, List.set_cons_succ, List.set_cons_zero]
        refine held_take 1 ?_ rfl (by kernel_rfl) (by kernel_rfl) (by kernel_rfl) (fun _ _ _ h => h) (Or.inl ⟨by kernel_rfl, ?_⟩) hS ?_
        rotate_left 1
        · intro u hu; have hu1 := hu; unfold SRef at hu1; go_simp; first | done | with_reducible rfl
        try simp only [Act.put, List.getElem_toArray, List.getElem_cons_succ, List.getElem_cons_zero, List.setIfInBounds_toArray, List.set_cons_succ, List.set_cons_zero]
        refine held_take 2 ?_ rfl (by kernel_rfl) (by kernel_rfl) (by kernel_rfl) (fun _ _ _ h => h) (Or.inl ⟨by kernel_rfl, ?_⟩) hS ?_
        rotate_left 1
        · intro u hu; have hu1 := hu; unfold SRef at hu1; go_simp; first | done | with_reducible rfl
        try simp only [Act.put, List.getElem_toArray, List.getElem_cons_succ, List.getElem_cons_zero, List.setIfInBounds_toArray, List.set_cons_succ, List.set_cons_zero]
        refine held_take 3 ?_ rfl (by kernel_rfl) (by kernel_rfl) (by kernel_rfl) (fun _ _ _ h => h) (Or.inl ⟨by kernel_rfl, ?_⟩) hS ?_
        rotate_left 1
        · intro u hu; have hu1 := hu; unfold SRef at hu1; go_simp; first | done | with_reducible rfl
        try simp only [Act.put, List.getElem_toArray, List.getElem_cons_succ, List.getElem_cons_zero, List.setIfInBounds_toArray, List.set_cons_succ, List.set_cons_zero]
        refine held_take 4 ?_ rfl (by kernel_rfl) (by kernel_rfl) (by kernel_rfl) (fun _ _ _ h => h) (Or.inl ⟨by kernel_rfl, ?_⟩) hS ?_
        rotate_left 1
        · intro u hu; have hu1 := hu; unfold SRef at hu1; go_simp; first | done | with_reducible rfl
        try simp only [Act.put, List.getElem_toArray, List.getElem_cons_succ, List.getElem_cons_zero, List.setIfInBounds_toArray, List.set_cons_succ, List.set_cons_zero]
        refine held_take 5 ?_ rfl (by kernel_rfl) (by kernel_rfl) (by kernel_rfl) (fun _ _ _ h => h) (Or.inl ⟨by kernel_rfl, ?_⟩) hS ?_
        rotate_left 1
        · intro u hu; have hu1 := hu; unfold SRef at hu1; go_simp; first | done | with_reducible rfl
        try simp only [Act.put, List.getElem_toArray, List.getElem_cons_succ, List.getElem_cons_zero, List.setIfInBounds_toArray, List.set_cons_succ, List.set_cons_zero]
        refine held_take 6 ?_ rfl (by kernel_rfl) (by kernel_rfl) (by kernel_rfl) (fun _ _ _ h => h) (Or.inl ⟨by kernel_rfl, ?_⟩) hS ?_
        rotate_left 1
        · intro u hu; have hu1 := hu; unfold SRef at hu1; go_simp; first | done | with_reducible rfl
        try simp only [Act.put, List.getElem_toArray, List.getElem_cons_succ, List.getElem_cons_zero, List.setIfInBounds_toArray, List.set_cons_succ, List.set_cons_zero]
        refine held_take 7 ?_ rfl (by kernel_rfl) (by kernel_rfl) (by kernel_rfl) (fun _ _ _ h => h) (Or.inl ⟨by kernel_rfl, ?_⟩) hS ?_
        rotate_left 1
        · intro u hu; have hu1 := hu; unfold SRef at hu1; go_simp; first | done | with_reducible rfl
        try simp only [Act.put, List.getElem_toArray, List.getElem_cons_succ, List.getElem_cons_zero, List.setIfInBounds_toArray, List.set_cons_succ, List.set_cons_zero]
        refine held_take 8 ?_ rfl (by kernel_rfl) (by kernel_rfl) (by kernel_rfl) (fun _ _ _ h => h) (Or.inl ⟨by kernel_rfl, ?_⟩) hS ?_
        rotate_left 1
        · intro u hu; have hu1 := hu; unfold SRef at hu1; go_simp; first | done | with_reducible rfl
        try simp only [Act.put, List.getElem_toArray, List.getElem_cons_succ, List.getElem_cons_zero, List.setIfInBounds_toArray, List.set_cons_succ, List.set_cons_zero]
        refine held_take 9 ?_ rfl (by kernel_rfl) (by kernel_rfl) (by kernel_rfl) (fun _ _ _ h => h) (Or.inl ⟨by kernel_rfl, ?_⟩) hS ?_
        rotate_left 1
        · intro u hu; have hu1 := hu; unfold SRef at hu1; go_simp; first | done | with_reducible rfl
        try simp only [Act.put, List.getElem_toArray, List.getElem_cons_succ, List.getElem_cons_zero, List.setIfInBounds_toArray, List.set_cons_succ, List.set_cons_zero]
        refine held_take 10 ?_ rfl (by kernel_rfl) (by kernel_rfl) (by kernel_rfl) (fun _ _ _ h => h) (Or.inl ⟨by kernel_rfl, ?_⟩) hS ?_
        rotate_left 1
        · intro u hu; have hu1 := hu; unfold SRef at hu1; go_simp; first | done | with_reducible rfl
        try simp only [Act.put, List.getElem_toArray, List.getElem_cons_succ, List.getElem_cons_zero, List.setIfInBounds_toArray, List.set_cons_succ, List.set_cons_zero]
        refine held_take 11 ?_ rfl (by kernel_rfl) (by kernel_rfl) (by kernel_rfl) (fun _ _ _ h => h) (Or.inl ⟨by kernel_rfl, ?_⟩) hS ?_
        rotate_left 1
        · intro u hu; have hu1 := hu; unfold SRef at hu1; go_simp; first | done | with_reducible rfl
        try simp only [Act.put, List.getElem_toArray, List.getElem_cons_succ, List.getElem_cons_zero, List.setIfInBounds_toArray, List.set_cons_succ, List.set_cons_zero]
        refine held_take 12 ?_ rfl (by kernel_rfl) (by kernel_rfl) (by kernel_rfl) (fun _ _ _ h => h) (Or.inl ⟨by kernel_rfl, ?_⟩) hS ?_
        rotate_left 1
        · intro u hu; have hu1 := hu; unfold SRef at hu1; go_simp; first | done | with_reducible rfl
        try simp only [Act.put, List.getElem_toArray, List.getElem_cons_succ, List.getElem_cons_zero, List.setIfInBounds_toArray, List.set_cons_succ, List.set_cons_zero]
        refine held_take 13 ?_ rfl (by kernel_rfl) (by kernel_rfl) (by kernel_rfl) (fun _ _ _ h => h) (Or.inl ⟨by kernel_rfl, ?_⟩) hS ?_
        rotate_left 1
        · intro u hu; have hu1 := hu; unfold SRef at hu1; go_simp; first | done | with_reducible rfl
        try simp only [Act.put, List.getElem_toArray, List.getElem_cons_succ, List.getElem_cons_zero, List.setIfInBounds_toArray, List.set_cons_succ, List.set_cons_zero]
        refine held_take 14 ?_ rfl (by kernel_rfl) (by kernel_rfl) (by kernel_rfl) (fun _ _ _ h => h) (Or.inl ⟨by kernel_rfl, ?_⟩) hS ?_
        rotate_left 1
        · intro u hu; have hu1 := hu; unfold SRef at hu1; go_simp; first | done | with_reducible rfl
        try simp only [Act.put, List.getElem_toArray, List.getElem_cons_succ, List.getElem_cons_zero, List.setIfInBounds_toArray, List.set_cons_succ, List.set_cons_zero]
        refine held_take 15 ?_ rfl (by kernel_rfl) (by kernel_rfl) (by kernel_rfl) (fun _ _ _ h => h) (Or.inl ⟨by kernel_rfl, ?_⟩) hS ?_
        rotate_left 1
        · intro u hu; have hu1 := hu; unfold SRef at hu1; go_simp; first | done | with_reducible rfl
        try simp only [Act.put, List.getElem_toArray, List.getElem_cons_succ, List.getElem_cons_zero, List.setIfInBounds_toArray, List.set_cons_succ, List.set_cons_zero]
        refine held_take 16 ?_ rfl (by kernel_rfl) (by kernel_rfl) (by kernel_rfl) (fun _ _ _ h => h) (Or.inl ⟨by kernel_rfl, ?_⟩) hS ?_
        rotate_left 1
        · intro u hu; have hu1 := hu; unfold SRef at hu1; go_simp; first | done | with_reducible rfl
        try simp only [Act.put, List.getElem_toArray, List.getElem_cons_succ, List.getElem_cons_zero, List.setIfInBounds_toArray, List.set_cons_succ, List.set_cons_zero]
        refine held_take 17 ?_ rfl (by kernel_rfl) (by kernel_rfl) (by kernel_rfl) (fun _ _ _ h => h) (Or.inl ⟨by kernel_rfl, ?_⟩) hS ?_
        rotate_left 1
        · intro u hu; have hu1 := hu; unfold SRef at hu1; go_simp; first | done | with_reducible rfl
        try simp only [Act.put, List.getElem_toArray, List.getElem_cons_succ, List.getElem_cons_zero, List.setIfInBounds_toArray, List.set_cons_succ, List.set_cons_zero]
        refine held_take 18 ?_ rfl (by kernel_rfl) (by kernel_rfl) (by kernel_rfl) (fun _ _ _ h => h) (Or.inl ⟨by kernel_rfl, ?_⟩) hS ?_
        rotate_left 1
        · intro u hu; have hu1 := hu; unfold SRef at hu1; go_simp; first | done | with_reducible rfl
        try simp only [Act.put, List.getElem_toArray, List.getElem_cons_succ, List.getElem_cons_zero, List.setIfInBounds_toArray, List.set_cons_succ, List.set_cons_zero]
        refine held_take 20 ?_ rfl (by kernel_rfl) (by kernel_rfl) (by kernel_rfl) (fun _ _ _ h => h) (Or.inl ⟨by kernel_rfl, ?_⟩) hS ?_
        rotate_left 1
        · intro u hu; have hu1 := hu; unfold SRef at hu1; go_simp; first | done | with_reducible rfl
        try simp only [Act.put, List.getElem_toArray, List.getElem_cons_succ, List.getElem_cons_zero, List.setIfInBounds_toArray, List.set_cons_succ, List.set_cons_zero]
        refine held_take 23 ?_ rfl (by kernel_rfl) (by kernel_rfl) (by kernel_rfl) (fun _ _ _ h => h) (Or.inl ⟨by kernel_rfl, ?_⟩) hS ?_
        rotate_left 1
        · intro u hu; have hu1 := hu; unfold SRef at hu1; go_simp; first | done | with_reducible rfl
        try simp only [Act.put, List.getElem_toArray, List.getElem_cons_succ, List.getElem_cons_zero, List.setIfInBounds_toArray, List.set_cons_succ, List.set_cons_zero]
        refine held_take 24 ?_ rfl (by kernel_rfl) (by kernel_rfl) (by kernel_rfl) (fun _ _ _ h => h) (Or.inl ⟨by kernel_rfl, ?_⟩) hS ?_
        rotate_left 1
        · intro u hu; have hu1 := hu; unfold SRef at hu1; go_simp; first | done | with_reducible rfl
        try simp only [Act.put, List.getElem_toArray, List.getElem_cons_succ, List.getElem_cons_zero, List.setIfInBounds_toArray, List.set_cons_succ, List.set_cons_zero]
        refine held_pair 19 21 (by kernel_rfl) rfl rfl (by kernel_rfl) (by kernel_rfl) (fun Ka hKa => ?_) (fun Ka hKa => ?_)
        · have hcl := HC1.out
          go_simp
          refine hKa _ _ hS ?_
          clear hKa Ka hcl
          try simp only [Act.put, List.getElem_toArray, List.getElem_cons_succ, List.getElem_cons_zero, List.setIfInBounds_toArray, List.set_cons_succ, List.set_cons_zero]
          refine held_one 21 (by kernel_rfl) rfl (by kernel_rfl) (fun Kd hKd => ?_)
          go_simp
          refine hKd _ _ HSA.out ?_
          clear hKd Kd
          try simp only [Act.put, List.getElem_toArray, List.getElem_cons_succ, List.getElem_cons_zero, List.setIfInBounds_toArray, List.set_cons_succ, List.set_cons_zero]
          refine held_one 22 (by kernel_rfl) rfl (by kernel_rfl) (fun Kb hKb => ?_)
          refine oper_append_eq _ _ 35 rfl _ _ rfl rfl HR.out ?_
          refine hKb _ _ HSW.out ?_
          clear hKb Kb
          try simp only [Act.put, List.getElem_toArray, List.getElem_cons_succ, List.getElem_cons_zero, List.setIfInBounds_toArray, List.set_cons_succ, List.set_cons_zero]
          refine held_take 25 ?_ rfl (by kernel_rfl) (by kernel_rfl) (by kernel_rfl) (fun _ _ _ h => h) (Or.inl ⟨by kernel_rfl, ?_⟩) HSW.out ?_
          rotate_left 1
          · intro u hu; have hu1 := hu; unfold SRef at hu1; go_simp; first | done | with_reducible rfl
          try simp only [Act.put, List.getElem_toArray, List.getElem_cons_succ, List.getElem_cons_zero, List.setIfInBounds_toArray, List.set_cons_succ, List.set_cons_zero]
          refine held_one 26 (by kernel_rfl) rfl (by kernel_rfl) (fun Kc hKc => ?_)
          have hd2 := HD1.out
          go_simp
          refine hKc _ _ (HSF.out _) ?_
          clear hKc Kc hd2
          try simp only [Act.put, List.getElem_toArray, List.getElem_cons_succ, List.getElem_cons_zero, List.setIfInBounds_toArray, List.set_cons_succ, List.set_cons_zero]
          refine wpAnyH_done (by kernel_rfl) ?_ _
          go_wp2_with fail
          go_ret
          exact ⟨rfl, HG.out⟩
        · go_simp
          refine hKa _ _ HSA.out ?_
          clear hKa Ka
          try simp only [Act.put, List.getElem_toArray, List.getElem_cons_succ, List.getElem_cons_zero, List.setIfInBounds_toArray, List.set_cons_succ, List.set_cons_zero]
          refine held_one 19 (by kernel_rfl) rfl (by kernel_rfl) (fun Kd hKd => ?_)
          have hcl := HC2.out
          go_simp
          refine hKd _ _ HSA.out ?_
          clear hcl
          clear hKd Kd
          try simp only [Act.put, List.getElem_toArray, List.getElem_cons_succ, List.getElem_cons_zero, List.setIfInBounds_toArray, List.set_cons_succ, List.set_cons_zero]
          refine held_one 22 (by kernel_rfl) rfl (by kernel_rfl) (fun Kb hKb => ?_)
          refine oper_append_eq _ _ 35 rfl _ _ rfl rfl HR.out ?_
          refine hKb _ _ HSW.out ?_
          clear hKb Kb
          try simp only [Act.put, List.getElem_toArray, List.getElem_cons_succ, List.getElem_cons_zero, List.setIfInBounds_toArray, List.set_cons_succ, List.set_cons_zero]
          refine held_take 25 ?_ rfl (by kernel_rfl) (by kernel_rfl) (by kernel_rfl) (fun _ _ _ h => h) (Or.inl ⟨by kernel_rfl, ?_⟩) HSW.out ?_
          rotate_left 1
          · intro u hu; have hu1 := hu; unfold SRef at hu1; go_simp; first | done | with_reducible rfl
          try simp only [Act.put, List.getElem_toArray, List.getElem_cons_succ, List.getElem_cons_zero, List.setIfInBounds_toArray, List.set_cons_succ, List.set_cons_zero]
          refine held_one 26 (by kernel_rfl) rfl (by kernel_rfl) (fun Kc hKc => ?_)
          have hd2 := HD1.out
          go_simp
          refine hKc _ _ (HSF.out _) ?_
          clear hKc Kc hd2
          try simp only [Act.put, List.getElem_toArray, List.getElem_cons_succ, List.getElem_cons_zero, List.setIfInBounds_toArray, List.set_cons_succ, List.set_cons_zero]
          refine wpAnyH_done (by kernel_rfl) ?_ _
          go_wp2_with fail
          go_ret
          exact ⟨rfl, HG.out⟩
end Go.Proofs.Ytjnekmdocbmofaa
