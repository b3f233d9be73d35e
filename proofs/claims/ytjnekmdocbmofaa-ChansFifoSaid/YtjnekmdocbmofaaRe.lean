/- The document's table: what is its own, and how it turns. -/
import Derived.Test.YtjnekmdocbmofaaRd
namespace Go.Proofs.Ytjnekmdocbmofaa
set_option linter.unusedSimpArgs false
set_option linter.unusedVariables false
open Go.RowKit Go.Shelf

variable {w w' : World} {rb sb n m : Nat} {cs : List (Option Ch)} {cur cur' : Array Value} {vs : Nat → Bool → Value}

/-- The blocks that the table's methods write. -/
def ROwn (sb : Nat) (cs : List (Option Ch)) (vs : Nat → Bool → Value) (k : Nat) : Prop := k = sb ∨ ∃ (i : Nat) (s : Bool) (c : Ch), cs[i]? = some (some c) ∧ blkOf (vs i s) = some k

theorem RefSl.turnB {S : Nat → Prop} {w w' : World} {lo : Nat} {v : Value} {L : List Int} (h : RefSl w lo v L) (t : Turn S w w') (hs : ∀ k, blkOf v = some k → ¬ S k) : RefSl w' lo v L := by
  rcases h with h | ⟨g, o, cap, cur, h1, rfl, h3, h4⟩
  · exact .inl h
  · exact .inr ⟨g, o, cap, cur, h1, rfl, (t.block g (heap_lt h3) (hs g rfl)).trans h3, h4⟩

theorem RefSl.blt {w : World} {lo : Nat} {v : Value} {L : List Int} (h : RefSl w lo v L) {k : Nat} (hk : blkOf v = some k) : k < w.heap.size ∧ lo < k := by
  rcases h with ⟨_, rfl⟩ | ⟨g, o, cap, cur, h1, rfl, h3, h4⟩
  · cases hk
  · have : g = k := by simpa [blkOf] using hk
    subst this; exact ⟨heap_lt h3, h1⟩

theorem RefTab.turn {S : Nat → Prop} (h : RefTab w rb sb n m cs cur vs) (t : Turn S w w') (hs : ∀ k, S k → k ≠ rb ∧ ¬ ROwn sb cs vs k) : RefTab w' rb sb n m cs cur vs :=
  ⟨(t.block _ (heap_lt h.tab) (fun hk => (hs _ hk).1 rfl)).trans h.tab, (t.block _ (heap_lt h.slots) (fun hk => (hs _ hk).2 (.inl rfl))).trans h.slots, h.size, h.len, h.n64, h.m1, h.m16, h.sr, h.used,
    fun i c hc => ⟨(h.ch i c hc).1, (h.ch i c hc).2.1, (h.ch i c hc).2.2.1, (h.ch i c hc).2.2.2.1, fun s => ⟨((h.ch i c hc).2.2.2.2 s).1.turnB t (fun k hk hS => (hs k hS).2 (.inr ⟨i, s, c, hc, hk⟩)), ((h.ch i c hc).2.2.2.2 s).2⟩⟩, h.apart⟩

theorem RefTab.own_lt (h : RefTab w rb sb n m cs cur vs) {k : Nat} (hk : ROwn sb cs vs k) : k < w.heap.size := by
  rcases hk with rfl | ⟨i, s, c, hc, hb⟩
  · exact heap_lt h.slots
  · exact (((h.ch i c hc).2.2.2.2 s).1.blt hb).1

theorem RefTab.own_ne (h : RefTab w rb sb n m cs cur vs) {k : Nat} (hk : ROwn sb cs vs k) : k ≠ rb := by
  have := h.sr
  rcases hk with rfl | ⟨i, s, c, hc, hb⟩
  · omega
  · have := (((h.ch i c hc).2.2.2.2 s).1.blt hb).2
    omega

/-- One slot is turned. -/
theorem RefTab.fix {S : Nat → Prop} (h : RefTab w rb sb n m cs cur vs) {i : Nat} (hi : i < n) {o' : Option Ch} {u : Bool → Value} (hcur : w'.heap[sb]? = some (.cells cur' 92)) (hsz : cur'.size = cur.size)
    (hother : ∀ j t, j ≠ i → t < 5 → cur'[j * 5 + t]? = cur[j * 5 + t]?) (hu : cur'[i * 5]? = some (.bool o'.isSome))
    (hc : ∀ c, o' = some c → cur'[i * 5 + 1]? = some (.bool (!c.o0)) ∧ cur'[i * 5 + 1 + 1]? = some (.bool (!c.o1)) ∧ cur'[i * 5 + 3]? = some (u false) ∧ cur'[i * 5 + 3 + 1]? = some (u true) ∧ ∀ s, RefSl w' rb (u s) (c.l s) ∧ (c.l s).length ≤ m)
    (t : Turn S w w') (hS : ∀ k, S k → k = sb ∨ ∃ s c, cs[i]? = some (some c) ∧ blkOf (vs i s) = some k)
    (hd : ∀ g, blkOf (u false) = some g → blkOf (u true) ≠ some g)
    (hn : ∀ s k, blkOf (u s) = some k → (∃ r c, cs[i]? = some (some c) ∧ blkOf (vs i r) = some k) ∨ w.heap.size ≤ k) :
    RefTab w' rb sb n m (cs.set i o') cur' (fun j => if j = i then u else vs j) ∧ (∀ k, ROwn sb (cs.set i o') (fun j => if j = i then u else vs j) k → ROwn sb cs vs k ∨ w.heap.size ≤ k) := by
  have hil : i < cs.length := by rw [h.len]; exact hi
  have hsr := h.sr
  have hget : ∀ (j : Nat) (o : Option Ch), (cs.set i o')[j]? = some o → (j = i ∧ o = o') ∨ (j ≠ i ∧ cs[j]? = some o) := fun j o hj => by
    rw [List.getElem?_set] at hj
    split at hj
    · rename_i e; subst e
      exact .inl ⟨rfl, by simpa using hj.symm⟩
    · exact .inr ⟨fun e => by subst e; exact absurd rfl ‹_›, hj⟩
  have hrb : ¬ S rb := fun hk => by
    rcases hS rb hk with e | ⟨s, c, hc, hb⟩
    · omega
    · have := (((h.ch i c hc).2.2.2.2 s).1.blt hb).2; omega
  refine ⟨⟨(t.block _ (heap_lt h.tab) hrb).trans h.tab, hcur, by rw [hsz]; exact h.size, by rw [List.length_set]; exact h.len, h.n64, h.m1, h.m16, h.sr, fun j o hj => ?_, fun j c hj => ?_, fun a s b r c d g ha hb hne hg => ?_⟩, fun k hk => ?_⟩
  · rcases hget j o hj with ⟨rfl, rfl⟩ | ⟨h1, h2⟩
    · exact hu
    · have := hother j 0 h1 (by omega)
      rw [Nat.add_zero] at this
      rw [this]; exact h.used j o h2
  · rcases hget j (some c) hj with ⟨rfl, e⟩ | ⟨h1, h2⟩
    · simp only [if_true]; exact hc c e.symm
    · simp only [h1, if_false]
      obtain ⟨k1, k2, k3, k4, k5⟩ := h.ch j c h2
      refine ⟨by rw [hother j 1 h1 (by omega)]; exact k1, by rw [Nat.add_assoc, hother j 2 h1 (by omega)]; exact k2, by rw [hother j 3 h1 (by omega)]; exact k3, by rw [Nat.add_assoc, hother j 4 h1 (by omega)]; exact k4, fun s => ⟨(k5 s).1.turnB t (fun k hk hSk => ?_), (k5 s).2⟩⟩
      rcases hS k hSk with e | ⟨r, d, hd1, hd2⟩
      · have := ((k5 s).1.blt hk).2; omega
      · exact h.apart j s i r c d k h2 hd1 (.inl h1) hk hd2
  · rcases hget a (some c) ha with ⟨rfl, e1⟩ | ⟨h1, h2⟩
    · rcases hget b (some d) hb with ⟨rfl, e2⟩ | ⟨h3, h4⟩
      · simp only [if_true] at hg ⊢
        rcases hne with hne | hne
        · exact absurd rfl hne
        · cases s <;> cases r
          · exact absurd rfl hne
          · exact hd g hg
          · exact fun h9 => hd g h9 hg
          · exact absurd rfl hne
      · simp only [if_true] at hg
        simp only [h3, if_false]
        rcases hn s g hg with ⟨r', c', hc1, hc2⟩ | hge
        · exact h.apart a r' b r c' d g hc1 h4 (.inl (Ne.symm h3)) hc2
        · exact fun h9 => by have := (((h.ch b d h4).2.2.2.2 r).1.blt h9).1; omega
    · simp only [h1, if_false] at hg
      rcases hget b (some d) hb with ⟨rfl, e2⟩ | ⟨h3, h4⟩
      · simp only [if_true]
        intro h9
        rcases hn r g h9 with ⟨r', c', hc1, hc2⟩ | hge
        · exact h.apart a s b r' c c' g h2 hc1 (.inl h1) hg hc2
        · have := (((h.ch a c h2).2.2.2.2 s).1.blt hg).1; omega
      · simp only [h3, if_false]
        exact h.apart a s b r c d g h2 h4 hne hg
  · rcases hk with hk | ⟨j, s, c, hj, hb⟩
    · exact .inl (.inl hk)
    · rcases hget j (some c) hj with ⟨rfl, e⟩ | ⟨h1, h2⟩
      · simp only [if_true] at hb
        rcases hn s k hb with ⟨r, d, h3, h4⟩ | hge
        · exact .inl (.inr ⟨_, r, d, h3, h4⟩)
        · exact .inr hge
      · simp only [h1, if_false] at hb
        exact .inl (.inr ⟨j, s, c, h2, hb⟩)

/-- What a call of the document's table makes of it. -/
def RefGoes (w w' : World) (rb sb n m : Nat) (cs cs' : List (Option Ch)) (vs : Nat → Bool → Value) : Prop :=
  (∃ cur' vs', RefTab w' rb sb n m cs' cur' vs' ∧ ∀ k, ROwn sb cs' vs' k → ROwn sb cs vs k ∨ w.heap.size ≤ k) ∧ Turn (ROwn sb cs vs) w w'

theorem RefGoes.same (h : RefTab w rb sb n m cs cur vs) (t : Turn Nn w w') : RefGoes w w' rb sb n m cs cs vs :=
  ⟨⟨cur, vs, h.turn t (fun k hk => hk.elim), fun k hk => .inl hk⟩, t.mono (fun _ h => h.elim)⟩
end Go.Proofs.Ytjnekmdocbmofaa
