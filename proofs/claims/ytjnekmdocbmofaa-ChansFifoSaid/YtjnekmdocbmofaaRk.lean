/- The program's table and the document's, side by side. -/
import Derived.Test.YtjnekmdocbmofaaRj
import Derived.Test.YtjnekmdocbmofaaCo
namespace Go.Proofs.Ytjnekmdocbmofaa
set_option linter.unusedSimpArgs false
set_option linter.unusedVariables false
open Go.RowKit Go.Shelf

set_option maxHeartbeats 1000000 in
theorem words21_same {w va vb L} (ha : SlI w va L) (hb : SlI w vb L) (hl : L.length ≤ 1000000000) :
    Calls Try.prog 41 #[va, vb] w fun e w' => e = .returned (.bool true) ∧ ∃ k, w' = w.drewN k := by
  cases hL : L with
  | nil =>
    subst hL
    obtain ⟨pa, ca, rfl⟩ : ∃ pa ca, va = .slice pa 0 ca := by
      rcases ha with ⟨_, pa, ca, rfl⟩ | ⟨b, o, c, rfl, _⟩ <;> exact ⟨_, _, rfl⟩
    obtain ⟨pb, cb, rfl⟩ : ∃ pa ca, vb = .slice pa 0 ca := by
      rcases hb with ⟨_, pa, ca, rfl⟩ | ⟨b, o, c, rfl, _⟩ <;> exact ⟨_, _, rfl⟩
    go_enter Try.func41, Try.ntmps41
    go_wp2
    go_loop [5] (fun i => i = .int .i64 0) (fun _ => 0)
    case atStart => rfl
    case round =>
      subst hrel
      go_wp2
      go_ret
      exact ⟨rfl, 0, rfl⟩
  | cons x L' =>
    have hn : 0 < L.length := by rw [hL]; simp
    obtain ⟨b1, o1, c1, rfl, hc1, h1⟩ := ha.resolve_left (fun h => by rw [hL] at h; cases h.1)
    obtain ⟨b2, o2, c2, rfl, hc2, h2⟩ := hb.resolve_left (fun h => by rw [hL] at h; cases h.1)
    clear hL ha hb
    obtain ⟨N, hN⟩ : ∃ N, L.length = N := ⟨_, rfl⟩
    rw [hN] at hl hn hc1 hc2 h1 h2 ⊢
    clear hN
    have H1 := Lib.hid h1
    have H2 := Lib.hid h2
    clear h1 h2
    go_enter Try.func41, Try.ntmps41
    go_wp2
    go_loopw [5] (fun i wr => ∃ k : Nat, k ≤ N ∧ i = .int .i64 k ∧ ∃ j, wr = w.drewN j) (fun i _ => N - (intOf i).toNat)
    case atStart => exact ⟨0, Nat.zero_le _, rfl, 0, rfl⟩
    case round =>
      obtain ⟨k, hk, rfl, j, rfl⟩ := hrel
      by_cases hlt : k < N
      · have g1 := H1.out k hlt
        have g2 := H2.out k hlt
        have hk2 : (k : Int) < (N : Int) := by omega
        go_wp2
        go_quiet (fail)
        go_wp2
        go_roundw
        case rel => exact ⟨k + 1, by omega, by go_num, _, rfl⟩
        case measure => simp [intOf]; omega
      · go_wp2
        go_ret
        exact ⟨rfl, _, rfl⟩

theorem own_set {sb : Nat} {cs : List (Option Ch)} {i : Nat} {o : Option Ch} {k : Nat} (h : TOwn sb (cs.set i o) k) : TOwn sb cs k ∨ ∃ c, o = some c ∧ ChIn c k := by
  rcases h with h | ⟨c, hc, h1, h2⟩
  · exact .inl (.inl h)
  · rcases List.mem_or_eq_of_mem_set hc with hc | hc
    · exact .inl (.inr ⟨c, hc, h1, h2⟩)
    · exact .inr ⟨c, hc.symm, h1, h2⟩

theorem own_setc {sb : Nat} {cs : List (Option Ch)} {i : Nat} {c d : Ch} {k : Nat} (hc : cs[i]? = some (some c)) (hb : d.base = c.base) (h : TOwn sb (cs.set i (some d)) k) : TOwn sb cs k := by
  rcases own_set h with h | ⟨c', hc', h1⟩
  · exact h
  · cases hc'
    exact .inr ⟨c, List.mem_of_getElem? hc, by rw [← hb]; exact h1.1, by rw [← hb]; exact h1.2⟩

theorem putT_own {sb cs m e x z cs'} (hz : putT cs m e x = (z, cs')) {k : Nat} (hk : TOwn sb cs' k) : TOwn sb cs k := by
  unfold putT at hz
  cases hs : sideOf cs e with
  | none => rw [hs] at hz; cases hz; exact hk
  | some y =>
    obtain ⟨i, s, c⟩ := y
    rw [hs] at hz
    simp only at hz
    split at hz
    · split at hz
      · cases hz; exact hk
      · cases hz; exact own_setc (sideOf_some hs).2.1 (c.setl_base _ _) hk
    · cases hz; exact hk
theorem takeT_own {sb cs e x z cs'} (hz : takeT cs e = (x, z, cs')) {k : Nat} (hk : TOwn sb cs' k) : TOwn sb cs k := by
  unfold takeT at hz
  cases hs : sideOf cs e with
  | none => rw [hs] at hz; cases hz; exact hk
  | some y =>
    obtain ⟨i, s, c⟩ := y
    rw [hs] at hz
    simp only at hz
    split at hz
    · split at hz
      · cases hz; exact hk
      · cases hz; exact own_setc (sideOf_some hs).2.1 (c.setl_base _ _) hk
    · cases hz; exact hk
theorem closeT_own {sb cs e z cs'} (hz : closeT cs e = (z, cs')) {k : Nat} (hk : TOwn sb cs' k) : TOwn sb cs k := by
  unfold closeT at hz
  cases hs : sideOf cs e with
  | none => rw [hs] at hz; cases hz; exact hk
  | some y =>
    obtain ⟨i, s, c⟩ := y
    rw [hs] at hz
    simp only at hz
    split at hz
    · split at hz
      · cases hz; exact own_setc (sideOf_some hs).2.1 (c.shut_base _) hk
      · cases hz
        rcases own_set hk with h | ⟨c', hc', _⟩
        · exact h
        · cases hc'
    · cases hz; exact hk
theorem makeT_own {sb cs b i z cs'} (hz : makeT cs b = (i, z, cs')) {k : Nat} (hk : TOwn sb cs' k) : TOwn sb cs k ∨ b ≤ k := by
  unfold makeT at hz
  cases hf : free cs with
  | none => rw [hf] at hz; cases hz; exact .inl hk
  | some j =>
    rw [hf] at hz
    cases hz
    rcases own_set hk with h | ⟨c', hc', h1⟩
    · exact .inl h
    · cases hc'; exact .inr h1.1

theorem TabIs.own_lt {w tb sb n m cs k} (h : TabIs w tb sb n m cs) (hk : TOwn sb cs k) : k < w.heap.size := by
  rcases hk with rfl | ⟨c, hc, h1, h2⟩
  · exact heap_lt h.slots
  · have := heap_lt (h.ch c hc).1.1; omega

/-- Both tables, apart. -/
structure Both (B : Nat) (w0 w : World) (tb sb rb rs n m : Nat) (ct cr : List (Option Ch)) : Prop where
  tab : TabIs w tb sb n m ct
  ref : ∃ cur vs, RefTab w rb rs n m cr cur vs ∧ ∀ k, (k = tb ∨ TOwn sb ct k) → k ≠ rb ∧ ¬ ROwn rs cr vs k
  bs : B ≤ sb
  br : B ≤ rs
  bw : B = w0.heap.size
  below : Below B w0 w

theorem RefTab.own_ge {w rb sb n m cs cur vs} (h : RefTab w rb sb n m cs cur vs) {k : Nat} (hk : ROwn sb cs vs k) : sb ≤ k := by
  have := h.sr
  rcases hk with rfl | ⟨i, s, c, hc, hb⟩
  · exact Nat.le_refl _
  · have := (((h.ch i c hc).2.2.2.2 s).1.blt hb).2
    omega

theorem Both.idle {B w0 w w' tb sb rb rs n m ct cr} (h : Both B w0 w tb sb rb rs n m ct cr) (t : Turn Nn w w') : Both B w0 w' tb sb rb rs n m ct cr := by
  obtain ⟨cur, vs, h1, h2⟩ := h.ref
  exact ⟨h.tab.turn' t, ⟨cur, vs, h1.turn t (fun _ h => h.elim), h2⟩, h.bs, h.br, h.bw, below_turn_n h.below t (by have := h.bw; omega)⟩

theorem Both.goA {B w0 w w' tb sb rb rs n m ct cr ct'} (h : Both B w0 w tb sb rb rs n m ct cr) (h' : TabIs w' tb sb n m ct') (t : Turn (TOwn sb ct) w w') (ho : ∀ k, TOwn sb ct' k → TOwn sb ct k ∨ w.heap.size ≤ k) : Both B w0 w' tb sb rb rs n m ct' cr := by
  obtain ⟨cur, vs, h1, h2⟩ := h.ref
  refine ⟨h', ⟨cur, vs, h1.turn t (fun k hk => h2 k (.inr hk)), fun k hk => ?_⟩, h.bs, h.br, h.bw, below_turn_t h.below h.tab t h.bs⟩
  rcases hk with hk | hk
  · exact h2 k (.inl hk)
  · rcases ho k hk with hk | hk
    · exact h2 k (.inr hk)
    · exact ⟨by have := heap_lt h1.tab; omega, fun hr => by have := h1.own_lt hr; omega⟩

theorem Both.goB {B w0 w w' tb sb rb rs n m ct cr cr'} (h : Both B w0 w tb sb rb rs n m ct cr) (hr : ∀ cur vs, RefTab w rb rs n m cr cur vs → RefGoes w w' rb rs n m cr cr' vs) : Both B w0 w' tb sb rb rs n m ct cr' := by
  obtain ⟨cur, vs, h1, h2⟩ := h.ref
  obtain ⟨⟨cur2, vs2, h3, h4⟩, t⟩ := hr cur vs h1
  refine ⟨h.tab.turnS t (fun k hk => ⟨fun ht => (h2 k (.inr ht)).2 hk, fun e => (h2 k (.inl e)).2 hk⟩), ⟨cur2, vs2, h3, fun k hk => ⟨(h2 k hk).1, fun hk2 => ?_⟩⟩, h.bs, h.br, h.bw, Turn.below h.below t (fun k hk => Nat.le_trans h.br (h1.own_ge hk)) (by have := h.below.size; have := h.bw; omega)⟩
  rcases h4 k hk2 with h5 | h5
  · exact (h2 k hk).2 h5
  · rcases hk with rfl | hk
    · have := heap_lt h.tab.tab; omega
    · have := h.tab.own_lt hk; omega

theorem waitA_le {w tb sb n m cs} (h : TabIs w tb sb n m cs) (e : Int) : (waitA cs e).length ≤ 16 := by
  unfold waitA
  cases hs : sideOf cs e with
  | none => simp
  | some y =>
    obtain ⟨i, s, c⟩ := y
    have hS : Side w tb sb n m cs e i s c := ⟨h, hs⟩
    have := hS.le s
    have := h.m16
    simp only
    omega

set_option maxRecDepth 100000 in
set_option maxHeartbeats 2000000 in
theorem alike_any {B w0 w tb sb rb rs n m cs} (h : Both B w0 w tb sb rb rs n m cs cs) (e : Int) :
    Calls Try.prog 36 #[.pointer (some ⟨tb, 0, none⟩), .pointer (some ⟨rb, 0, none⟩), .int .i64 e] w fun r w' => r = .returned (.bool true) ∧ Turn Nn w w' := by
  obtain ⟨cur, vs, hr, _⟩ := h.ref
  have hwl := waitA_le h.tab e
  have HT := Lib.hid h.tab
  have HR := Lib.hid hr
  have HL := Lib.hid hwl
  clear hr hwl h
  have H1 : ∀ w', Turn Nn w w' → TabIs w' tb sb n m cs := fun w' t => HT.out.turn' t
  have H2 : ∀ w', Turn Nn w w' → RefTab w' rb rs n m cs cur vs := fun w' t => HR.out.turn t (fun _ h => h.elim)
  have H1 := Lib.hid H1
  have H2 := Lib.hid H2
  obtain ⟨bo, hbo⟩ : ∃ b, openA cs e = b := ⟨_, rfl⟩
  obtain ⟨bp, hbp⟩ : ∃ b, canPutA cs m e = b := ⟨_, rfl⟩
  obtain ⟨bt, hbt⟩ : ∃ b, canTakeA cs e = b := ⟨_, rfl⟩
  have HO := Lib.hid hbo
  have HP := Lib.hid hbp
  have HTK := Lib.hid hbt
  clear hbo hbp hbt
  go_enter Try.func36, Try.ntmps36
  go_wp2_with fail
  refine (open_any (H1.out _ (Turn.refl _ _)) e).mono ?_
  rintro r w1 ⟨rfl, t1⟩
  go_wp2_with fail
  refine (refOpen_any (H2.out _ t1) e).mono ?_
  rintro r w' ⟨rfl, rfl⟩
  rw [HO.out]
  go_wp2_with fail
  refine (canPut_any (H1.out _ t1) e).mono ?_
  rintro r w2 ⟨rfl, t2⟩
  have t2 := t1.trans t2
  go_wp2_with fail
  refine (refCanPut_any (H2.out _ t2) e).mono ?_
  rintro r w' ⟨rfl, k, rfl⟩
  have t3 := t2.drewN k
  rw [HP.out]
  go_wp2_with fail
  refine (canTake_any (H1.out _ t3) e).mono ?_
  rintro r w4 ⟨rfl, t4⟩
  have t4 := t3.trans t4
  go_wp2_with fail
  refine (refCanTake_any (H2.out _ t4) e).mono ?_
  rintro r w' ⟨rfl, rfl⟩
  rw [HTK.out]
  go_wp2_with fail
  refine (waiting_any (H1.out _ t4) e).mono ?_
  rintro r w5 ⟨⟨v5, nb, rfl, n5, hnb⟩, t5⟩
  have t6 := t4.trans t5
  go_wp2_with fail
  refine (refWaiting_any (H2.out _ t6) e).mono ?_
  rintro r w7 ⟨⟨v7, rfl, s7⟩, t7⟩
  have t8 := t6.trans t7
  have n7 := n5.turn t7 (fun h => h)
  go_wp2_with fail
  refine (words21_same n7.sl s7 (by have := HL.out; omega)).mono ?_
  rintro r w' ⟨rfl, k8, rfl⟩
  go_wp2_with fail
  go_ret
  exact ⟨by simp, t8.drewN k8⟩
end Go.Proofs.Ytjnekmdocbmofaa
