/- The queue's contracts over a list of words. -/
import Derived.Test.YtjnekmdocbmofaaQh
import Derived.Test.YtjnekmdocbmofaaPq
namespace Go.Proofs.Ytjnekmdocbmofaa
set_option linter.unusedSimpArgs false
set_option linter.unusedVariables false
open Go.RowKit Go.Shelf

theorem Turn.below {S : Nat → Prop} {B : Nat} {a w w' : World} (h : Below B a w) (t : Turn S w w') (hS : ∀ k, S k → B ≤ k) (hB : B ≤ w.heap.size) : Below B a w' :=
  h.trans ⟨t.os, t.tape, t.output, t.size, fun k hk => t.block k (by omega) (fun hs => by have := hS k hs; omega)⟩

/-- At block b stands a queue of at most m words, which are L. -/
def QIs (w : World) (b : Nat) (L : List Int) (m : Nat) : Prop := ∃ r f, QAt w b r f L.length m ∧ L = ringList r f L.length m

theorem QIs.m16 {w b L m} (h : QIs w b L m) : m ≤ 16 := by obtain ⟨r, f, h, _⟩ := h; exact h.m16
theorem QIs.le {w b L m} (h : QIs w b L m) : L.length ≤ m := by obtain ⟨r, f, h, _⟩ := h; exact h.nm
theorem QIs.lt {w b L m} (h : QIs w b L m) : b < w.heap.size := by obtain ⟨r, f, h, _⟩ := h; exact h.lt
theorem QIs.eqb {w w' b L m} (h : QIs w b L m) (e : w'.heap[b]? = w.heap[b]?) : QIs w' b L m := by
  obtain ⟨r, f, h, e2⟩ := h; exact ⟨r, f, h.eqb e, e2⟩
theorem QIs.turn {S : Nat → Prop} {w w' b L m} (h : QIs w b L m) (t : Turn S w w') (hs : ¬ S b) : QIs w' b L m := h.eqb (t.block b h.lt hs)
theorem QIs.drewN {w b L m} (h : QIs w b L m) (k : Nat) : QIs (w.drewN k) b L m := h.eqb rfl

theorem QIs.new {w : World} {m : Nat} (h1 : 1 ≤ m) (h2 : m ≤ 16) : QIs (w.alloc (.cells (qcells (List.replicate 16 0) 0 0 m) 68)) w.heap.size [] m :=
  ⟨List.replicate 16 0, 0, ⟨by simp, World.alloc_heap_new _ _, h1, h2, by omega, by simp⟩, rfl⟩

def QIn (b : Nat) (k : Nat) : Prop := k = b

theorem putq_ok {w b L m} (h : QIs w b L m) (x : Int) (hl : L.length < m) :
    Calls Try.prog 14 #[.pointer (some ⟨b, 0, none⟩), .int .i64 x] w fun e w' => e = .returned (.int .i64 0) ∧ QIs w' b (L ++ [x]) m ∧ Turn (QIn b) w w' := by
  obtain ⟨r, f, h, e⟩ := h
  refine (put_ok h x hl).mono ?_
  rintro e w' ⟨rfl, h2, h3⟩
  refine ⟨rfl, ⟨_, f, by simpa using h2, ?_⟩, h3⟩
  rw [List.length_append, List.length_singleton, ring_put r f _ m x h.len h.m16 h.fm hl, ← e]

theorem putq_full {w b L m} (h : QIs w b L m) (x : Int) (hl : L.length = m) :
    Calls Try.prog 14 #[.pointer (some ⟨b, 0, none⟩), .int .i64 x] w fun e w' => e = .returned (.int .i64 22) ∧ QIs w' b L m ∧ Turn (QIn b) w w' := by
  have h0 := h
  obtain ⟨r, f, h, e⟩ := h
  refine (put_full h x hl).mono ?_
  rintro e w' ⟨rfl, k, rfl⟩
  exact ⟨rfl, h0.drewN k, (Turn.refl _ _).drewN k⟩

theorem takeq_ok {w b x L m} (h : QIs w b (x :: L) m) :
    Calls Try.prog 16 #[.pointer (some ⟨b, 0, none⟩)] w fun e w' => e = .returned (.tuple #[.int .i64 x, .int .i64 0]) ∧ QIs w' b L m ∧ Turn (QIn b) w w' := by
  obtain ⟨r, f, h, e⟩ := h
  rw [ring_take r f _ m h.fm (by simp) h.nm] at e
  obtain ⟨e1, e2⟩ := List.cons.inj e
  refine (take_ok h (by simp)).mono ?_
  rintro e w' ⟨rfl, h2, h3⟩
  refine ⟨by rw [e1], ⟨_, _, by simpa using h2, by simpa using e2⟩, h3⟩

theorem takeq_empty {w b m} (h : QIs w b [] m) :
    Calls Try.prog 16 #[.pointer (some ⟨b, 0, none⟩)] w fun e w' => e = .returned (.tuple #[.int .i64 0, .int .i64 23]) ∧ QIs w' b [] m ∧ Turn (QIn b) w w' := by
  have h0 := h
  obtain ⟨r, f, h, e⟩ := h
  refine (take_empty h rfl).mono ?_
  rintro e w' ⟨rfl, k, rfl⟩
  exact ⟨rfl, h0.drewN k, (Turn.refl _ _).drewN k⟩

theorem lenq {w b L m} (h : QIs w b L m) :
    Calls Try.prog 18 #[.pointer (some ⟨b, 0, none⟩)] w fun e w' => e = .returned (.int .i64 L.length) ∧ ∃ k, w' = w.drewN k := by
  obtain ⟨r, f, h, e⟩ := h
  exact len_any h

theorem fullq {w b L m} (h : QIs w b L m) :
    Calls Try.prog 19 #[.pointer (some ⟨b, 0, none⟩)] w fun e w' => e = .returned (.bool ((L.length : Int) == m)) ∧ ∃ k, w' = w.drewN k := by
  obtain ⟨r, f, h, e⟩ := h
  exact full_any h

/-- The value reads as the words L. -/
def SlI (w : World) (v : Value) (L : List Int) : Prop :=
  (L = [] ∧ ∃ pa cap, v = .slice pa 0 cap) ∨ (∃ b o cap, v = .slice (some ⟨b, o, none⟩) L.length cap ∧ L.length ≤ cap ∧ ∀ i, i < L.length → w.cell? ⟨b, o + i, none⟩ = some (.int .i64 (L[i]?.getD 0)))

/-- A new slice of its own: nil, or the block nb. -/
def NewI (w : World) (nb : Nat) (v : Value) (L : List Int) : Prop :=
  (L = [] ∧ v = .slice none 0 0) ∨ ((L ≠ [] ∧ v = .slice (some ⟨nb, 0, none⟩) L.length L.length) ∧ w.heap[nb]? = some (.cells (ints L) 2))

theorem NewI.sl {w nb v L} (h : NewI w nb v L) : SlI w v L := by
  rcases h with h | ⟨⟨_, rfl⟩, h⟩
  · exact .inl ⟨h.1, _, _, h.2⟩
  · refine .inr ⟨nb, 0, _, rfl, Nat.le_refl _, fun i hi => ?_⟩
    rw [cell_blk h, Nat.zero_add]
    simp [ints, hi]

theorem NewI.turn {S : Nat → Prop} {w w' nb v L} (h : NewI w nb v L) (t : Turn S w w') (hs : ¬ S nb) : NewI w' nb v L := by
  rcases h with h | ⟨⟨h0, rfl⟩, h⟩
  · exact .inl h
  · exact .inr ⟨⟨h0, rfl⟩, (t.block nb (Array.getElem?_eq_some_iff.1 h).1 hs).trans h⟩

theorem listq (HR : RowsSaid) {w b L m} (h : QIs w b L m) :
    Calls Try.prog 22 #[.pointer (some ⟨b, 0, none⟩)] w fun e w' => (∃ v, e = .returned v ∧ NewI w' w.heap.size v L) ∧ Turn Nn w w' := by
  obtain ⟨r, f, h, e⟩ := h
  cases hL : L with
  | nil =>
    subst hL
    clear e
    have h1 := h.n
    simp only [List.length_nil] at h1
    go_enter Try.func22, Try.ntmps22
    go_wp2_with fail
    refine (len_any h).mono ?_
    rintro e w' ⟨rfl, k, rfl⟩
    go_wp2_with fail
    go_ret
    exact ⟨⟨_, rfl, .inl ⟨rfl, rfl⟩⟩, (Turn.refl _ _).drewN k⟩
  | cons x L' =>
    have hn : 0 < L.length := by rw [hL]; simp
    refine (callsIn_wide.1 (list_in HR 3 (Nat.le_refl _) h hn)).mono ?_
    rintro e' w' ⟨rfl, h2, h3, h4⟩
    have hp : qpieces r f L.length m = L := by
      refine Eq.trans ?_ e.symm
      simp only [qpieces, catRows, List.flatMap_cons, List.flatMap_nil, List.append_nil, rowList, rowOff, rowLen]
      exact pieces_ring r f _ m h.len h.m16 h.fm h.nm
    rw [hp] at h2
    rw [← hL]
    exact ⟨⟨_, rfl, .inr ⟨⟨by rw [hL]; simp, rfl⟩, h2⟩⟩, ⟨h3.os, h3.tape, h3.output, h3.size, fun k hk _ => h3.block k hk⟩⟩

set_option maxHeartbeats 1000000 in
theorem words20_same {w va vb L} (ha : SlI w va L) (hb : SlI w vb L) (hl : L.length ≤ 1000000000) :
    Calls Try.prog 21 #[va, vb] w fun e w' => e = .returned (.bool true) ∧ ∃ k, w' = w.drewN k := by
  cases hL : L with
  | nil =>
    subst hL
    obtain ⟨pa, ca, rfl⟩ : ∃ pa ca, va = .slice pa 0 ca := by
      rcases ha with ⟨_, pa, ca, rfl⟩ | ⟨b, o, c, rfl, _⟩ <;> exact ⟨_, _, rfl⟩
    obtain ⟨pb, cb, rfl⟩ : ∃ pa ca, vb = .slice pa 0 ca := by
      rcases hb with ⟨_, pa, ca, rfl⟩ | ⟨b, o, c, rfl, _⟩ <;> exact ⟨_, _, rfl⟩
    go_enter Try.func21, Try.ntmps21
    go_wp2
    go_loop [5] (fun i => i = .int .i64 0) (fun _ => 0)
    case atStart => rfl
    case round =>
      subst hrel
      go_wp2
      go_ret
      exact ⟨rfl, 0, rfl⟩
  | cons x L' =>
    have hn : 0 < L.length := by rw [hL]; simp
    obtain ⟨b1, o1, c1, rfl, hc1, h1⟩ := ha.resolve_left (fun h => by rw [hL] at h; cases h.1)
    obtain ⟨b2, o2, c2, rfl, hc2, h2⟩ := hb.resolve_left (fun h => by rw [hL] at h; cases h.1)
    clear hL ha hb
    obtain ⟨N, hN⟩ : ∃ N, L.length = N := ⟨_, rfl⟩
    rw [hN] at hl hn hc1 hc2 h1 h2 ⊢
    clear hN
    have H1 := Lib.hid h1
    have H2 := Lib.hid h2
    clear h1 h2
    go_enter Try.func21, Try.ntmps21
    go_wp2
    go_loopw [5] (fun i wr => ∃ k : Nat, k ≤ N ∧ i = .int .i64 k ∧ ∃ j, wr = w.drewN j) (fun i _ => N - (intOf i).toNat)
    case atStart => exact ⟨0, Nat.zero_le _, rfl, 0, rfl⟩
    case round =>
      obtain ⟨k, hk, rfl, j, rfl⟩ := hrel
      by_cases hlt : k < N
      · have g1 := H1.out k hlt
        have g2 := H2.out k hlt
        have hk2 : (k : Int) < (N : Int) := by omega
        go_wp2
        go_quiet (fail)
        go_wp2
        go_roundw
        case rel => exact ⟨k + 1, by omega, by go_num, _, rfl⟩
        case measure => simp [intOf]; omega
      · go_wp2
        go_ret
        exact ⟨rfl, _, rfl⟩
end Go.Proofs.Ytjnekmdocbmofaa
