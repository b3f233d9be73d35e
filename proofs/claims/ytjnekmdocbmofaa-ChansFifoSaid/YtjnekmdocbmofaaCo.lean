/- New channels come into the lowest free slots: the law's walk. -/
import Derived.Test.YtjnekmdocbmofaaCn
import Derived.Outline
namespace Go.Proofs.Ytjnekmdocbmofaa
set_option linter.unusedSimpArgs false
set_option linter.unusedVariables false
open Go.RowKit Go.Shelf

/-- A slice of bytes that came in. -/
def ByI (w : World) (v : Value) (n : Nat) : Prop := ∃ pa cap, v = .slice pa n cap ∧ ∀ i, i < n → ∃ b o, ∃ z : Int, pa = some ⟨b, o, none⟩ ∧ w.cell? ⟨b, o + i, none⟩ = some (.int .u8 z) ∧ 0 ≤ z ∧ z ≤ 255

/-- The lowest free slot from j on. -/
def low (cs : List (Option Ch)) (j : Nat) : Int := match free (cs.drop j) with
  | some i => (j : Int) + i
  | none => -1

theorem low_zero (cs : List (Option Ch)) : low cs 0 = idxOf cs := by
  unfold low idxOf; simp only [List.drop_zero]; cases free cs <;> simp
theorem low_end (cs : List (Option Ch)) (n : Nat) (h : cs.length ≤ n) : low cs n = -1 := by
  unfold low; rw [List.drop_of_length_le h]; rfl
theorem low_step (cs : List (Option Ch)) (j : Nat) {o : Option Ch} (h : cs[j]? = some o) : low cs j = if o.isNone then (j : Int) else low cs (j + 1) := by
  have hj : j < cs.length := by
    rcases Nat.lt_or_ge j cs.length with h1 | h1
    · exact h1
    · rw [List.getElem?_eq_none h1] at h; cases h
  have e : cs[j] = o := by rw [List.getElem?_eq_getElem hj] at h; simpa using h
  unfold low free
  rw [List.drop_eq_getElem_cons hj, e, List.findIdx?_cons]
  cases o with
  | none => simp
  | some c =>
    simp only [Option.isNone_some, Bool.false_eq_true, if_false]
    cases (cs.drop (j + 1)).findIdx? Option.isNone <;> simp <;> omega
theorem low_ge (cs : List (Option Ch)) (j : Nat) : -1 ≤ low cs j ∧ (low cs j ≤ cs.length) := by
  unfold low
  cases h : free (cs.drop j) with
  | none => simp <;> omega
  | some i => have := free_lt h; simp at this ⊢; omega

def usedVals (cs : List (Option Ch)) : Array Value := (cs.map fun o => Value.bool o.isSome).toArray
/-- Each channel has both sides open. -/
def Whole (cs : List (Option Ch)) : Prop := ∀ c, some c ∈ cs → c.o0 = true ∧ c.o1 = true

theorem under48 : Try.prog.underlying 48 = some (.slice 4) := by kernel_rfl
theorem info4 : (Try.prog.info? 4).map (fun i => (i.zero, i.size, i.bytes)) = some (some (.bool false), 1, 1) := by kernel_rfl

theorem falses_eq (n : Nat) : madeCells #[Value.bool false] n = usedVals (List.replicate n none) := by
  unfold usedVals madeCells
  apply Array.ext
  · simp
  · intro i h1 h2
    simp [Nat.mod_one]

theorem TabIs.turnS {S : Nat → Prop} {w w' tb sb n m cs} (h : TabIs w tb sb n m cs) (t : Turn S w w') (hs : ∀ k, S k → ¬ TOwn sb cs k ∧ k ≠ tb) : TabIs w' tb sb n m cs := by
  have hc : ∀ c, some c ∈ cs → ∀ k, c.base ≤ k → k ≤ c.base + 2 → ¬ S k := fun c hc k h1 h2 hk => (hs k hk).1 (.inr ⟨c, hc, h1, h2⟩)
  exact ⟨(t.block _ (heap_lt h.tab) (fun hk => (hs _ hk).2 rfl)).trans h.tab, (t.block _ (heap_lt h.slots) (fun hk => (hs _ hk).1 (.inl rfl))).trans h.slots, h.len, h.n64, h.m1, h.m16, h.ts,
    fun c hm => ⟨(h.ch c hm).1.turn t (hc c hm _ (by omega) (by omega)) (hc c hm _ (by omega) (by omega)) (hc c hm _ (by omega) (by omega)), (h.ch c hm).2⟩, h.apart⟩

theorem usedVals_set (cs : List (Option Ch)) (i : Nat) (o : Option Ch) : (usedVals cs).setIfInBounds i (.bool o.isSome) = usedVals (cs.set i o) := by
  simp only [usedVals, List.setIfInBounds_toArray, List.map_set]

theorem closeT_free {cs : List (Option Ch)} {q : Nat} (h : cs[q]? = some none) (s : Bool) : closeT cs (2 * (q : Int) + (if s then 1 else 0)) = (24, cs) := by
  unfold closeT
  cases hs : sideOf cs (2 * (q : Int) + (if s then 1 else 0)) with
  | none => rfl
  | some x =>
    obtain ⟨i, r, c⟩ := x
    obtain ⟨_, h2, h3⟩ := sideOf_some hs
    have : i = q := by cases s <;> cases r <;> simp at h3 <;> omega
    subst this
    rw [h] at h2
    simp at h2

theorem closeT_one {cs : List (Option Ch)} {q : Nat} {c : Ch} (h : cs[q]? = some (some c)) (h0 : c.o0 = true) (h1 : c.o1 = true) : closeT cs (2 * (q : Int)) = (0, cs.set q (some (c.shut false))) := by
  have := sideOf_mk (s := false) h
  simp only [Bool.false_eq_true, if_false, Int.add_zero] at this
  unfold closeT
  rw [this]
  simp [Ch.o, h0, h1]

theorem closeT_two {cs : List (Option Ch)} {q : Nat} {c : Ch} (h : cs[q]? = some (some c)) (h0 : c.o0 = false) (h1 : c.o1 = true) : closeT cs (2 * (q : Int) + 1) = (0, cs.set q none) := by
  have := sideOf_mk (s := true) h
  simp only [if_true] at this
  unfold closeT
  rw [this]
  simp [Ch.o, h0, h1]

theorem Whole.set {cs : List (Option Ch)} (h : Whole cs) (i : Nat) (o : Option Ch) (ho : ∀ c, o = some c → c.o0 = true ∧ c.o1 = true) : Whole (cs.set i o) := fun c hc => by
  rcases List.mem_or_eq_of_mem_set hc with hc | hc
  · exact h c hc
  · exact ho c hc.symm

theorem own_set_none {sb : Nat} {cs : List (Option Ch)} {i k : Nat} (h : ¬ TOwn sb cs k) : ¬ TOwn sb (cs.set i none) k := by
  rintro (hk | ⟨c, hc, hk⟩)
  · exact h (.inl hk)
  · rcases List.mem_or_eq_of_mem_set hc with hc | hc
    · exact h (.inr ⟨c, hc, hk⟩)
    · cases hc
theorem own_set_some {sb : Nat} {cs : List (Option Ch)} {i k : Nat} {c : Ch} (h : ¬ TOwn sb cs k) (hb : ¬ ChIn c k) : ¬ TOwn sb (cs.set i (some c)) k := by
  rintro (hk | ⟨d, hc, hk⟩)
  · exact h (.inl hk)
  · rcases List.mem_or_eq_of_mem_set hc with hc | hc
    · exact h (.inr ⟨d, hc, hk⟩)
    · cases hc; exact hb hk

/-- What a round of slots holds. -/
structure SlotsIs (B : Nat) (w0 w : World) (tb sb ub n : Nat) (cs : List (Option Ch)) : Prop where
  tab : TabIs w tb sb n 1 cs
  whole : Whole cs
  used : w.heap[ub]? = some (.cells (usedVals cs) 4)
  off : ¬ TOwn sb cs ub
  ut : ub ≠ tb
  bs : B ≤ sb
  bu : B ≤ ub
  bw : B = w0.heap.size
  below : Below B w0 w

theorem SlotsIs.idle {B w0 w w' tb sb ub n cs} (h : SlotsIs B w0 w tb sb ub n cs) (t : Turn Nn w w') : SlotsIs B w0 w' tb sb ub n cs :=
  ⟨h.tab.turn' t, h.whole, (t.block _ (heap_lt h.used) (fun h => h)).trans h.used, h.off, h.ut, h.bs, h.bu, h.bw, below_turn_n h.below t (by have := h.bw; omega)⟩

theorem SlotsIs.own {B w0 w w' tb sb ub n cs} (h : SlotsIs B w0 w tb sb ub n cs) (t : Turn (TOwn sb cs) w w') : Below B w0 w' ∧ w'.heap[ub]? = some (.cells (usedVals cs) 4) :=
  ⟨below_turn_t h.below h.tab t h.bs, (t.block _ (heap_lt h.used) h.off).trans h.used⟩

theorem SlotsIs.fix {B w0 w tb sb ub n cs cs1} {i : Nat} {b : Bool} (h : TabIs w tb sb n 1 cs1) (hw : Whole cs1) (hu : w.heap[ub]? = some (.cells (usedVals cs) 4)) (hcs : (usedVals cs).setIfInBounds i (.bool b) = usedVals cs1)
    (off : ¬ TOwn sb cs1 ub) (ut : ub ≠ tb) (bs : B ≤ sb) (bu : B ≤ ub) (bw : B = w0.heap.size) (below : Below B w0 w) : SlotsIs B w0 (w.setCell ⟨ub, i, none⟩ (.bool b)) tb sb ub n cs1 :=
  ⟨h.turnS (S := QIn ub) ((Turn.refl (QIn ub) _).setCell (p := ⟨ub, i, none⟩) (.inl rfl) _) (fun k hk => by have hk : k = ub := hk; subst hk; exact ⟨off, ut⟩), hw,
    by rw [heap_setCell_at hu, hcs], off, ut, bs, bu, bw, Turn.below below ((Turn.refl (QIn ub) _).setCell (p := ⟨ub, i, none⟩) (.inl rfl) _) (fun k hk => by have hk : k = ub := hk; omega) (by have := below.size; omega)⟩

theorem usedVals_same {cs : List (Option Ch)} {q : Nat} (h : cs[q]? = some none) : (usedVals cs).setIfInBounds q (.bool false) = usedVals cs := by
  rw [show Value.bool false = .bool (Option.isSome (none : Option Ch)) from rfl, usedVals_set]
  congr 1
  apply List.ext_getElem?
  intro j
  rw [List.getElem?_set]
  split
  · rename_i e; subst e
    split
    · exact h.symm
    · rename_i h2; rw [List.getElem?_eq_none (by omega)]
  · rfl

theorem SlotsIs.same {B w0 w w' tb sb ub n cs} (h : SlotsIs B w0 w tb sb ub n cs) (h2 : TabIs w' tb sb n 1 cs) (t : Turn (TOwn sb cs) w w') : SlotsIs B w0 w' tb sb ub n cs :=
  ⟨h2, h.whole, (h.own t).2, h.off, h.ut, h.bs, h.bu, h.bw, (h.own t).1⟩

theorem closeT_free0 {cs : List (Option Ch)} {q : Nat} (h : cs[q]? = some none) : closeT cs (2 * (q : Int)) = (24, cs) := by
  have := closeT_free h false; simpa using this
theorem closeT_free1 {cs : List (Option Ch)} {q : Nat} (h : cs[q]? = some none) : closeT cs (2 * (q : Int) + 1) = (24, cs) := by
  have := closeT_free h true; simpa using this

theorem SlotsIs.cellU {B w0 w tb sb ub n cs} (h : SlotsIs B w0 w tb sb ub n cs) {q : Nat} {o : Option Ch} (hq : cs[q]? = some o) : w.cell? ⟨ub, q, none⟩ = some (.bool o.isSome) := by
  rw [cell_blk h.used]; simp [usedVals, hq]
theorem SlotsIs.fzU {B w0 w tb sb ub n cs} (h : SlotsIs B w0 w tb sb ub n cs) (q : Nat) : w.frozen? ⟨ub, q, none⟩ = false := frozen_blk h.used _

theorem get_set_self {cs : List (Option Ch)} {q : Nat} {o o' : Option Ch} (h : cs[q]? = some o) : (cs.set q o')[q]? = some o' := by
  have hq : q < cs.length := by
    rcases Nat.lt_or_ge q cs.length with h1 | h1
    · exact h1
    · rw [List.getElem?_eq_none h1] at h; cases h
  rw [List.getElem?_set_self hq]

/-- Both ends closed: the slot is free. -/
theorem SlotsIs.gone {B w0 w w6 w7 tb sb ub n cs} {q : Nat} {c : Ch} (h : SlotsIs B w0 w tb sb ub n cs) (hq : cs[q]? = some (some c)) (t6 : Turn (TOwn sb cs) w w6) (h6 : TabIs w6 tb sb n 1 (cs.set q (some (c.shut false)))) (h7 : TabIs w7 tb sb n 1 ((cs.set q (some (c.shut false))).set q none)) (t7 : Turn (TOwn sb (cs.set q (some (c.shut false)))) w6 w7) :
    SlotsIs B w0 (w7.setCell ⟨ub, q, none⟩ (.bool false)) tb sb ub n (cs.set q none) ∧ w7.cell? ⟨ub, q, none⟩ = some (.bool true) ∧ w7.frozen? ⟨ub, q, none⟩ = false := by
  have hoff : ¬ TOwn sb (cs.set q (some (c.shut false))) ub := own_set_some h.off (fun hc => h.off (.inr ⟨c, List.mem_of_getElem? hq, hc⟩))
  have o6 := h.own t6
  have u7 : w7.heap[ub]? = some (.cells (usedVals cs) 4) := (t7.block _ (heap_lt o6.2) hoff).trans o6.2
  have b7 := below_turn_t o6.1 h6 t7 h.bs
  rw [List.set_set] at h7
  refine ⟨SlotsIs.fix h7 (h.whole.set q none (fun c hc => by cases hc)) u7 (usedVals_set cs q none) (own_set_none h.off) h.ut h.bs h.bu h.bw b7, ?_, frozen_blk u7 _⟩
  rw [cell_blk u7]; simp [usedVals, hq]

/-- A new channel. -/
theorem SlotsIs.made {B w0 w w4 tb sb ub n cs} {i : Nat} (h : SlotsIs B w0 w tb sb ub n cs) (hf : free cs = some i) (h4 : TabIs w4 tb sb n 1 (cs.set i (some ⟨w.heap.size, true, true, [], []⟩))) (t4 : Turn (TOwn sb cs) w w4) :
    SlotsIs B w0 (w4.setCell ⟨ub, i, none⟩ (.bool true)) tb sb ub n (cs.set i (some ⟨w.heap.size, true, true, [], []⟩)) ∧ (∃ v, w4.cell? ⟨ub, i, none⟩ = some v) ∧ w4.frozen? ⟨ub, i, none⟩ = false := by
  have hlt := heap_lt h.used
  have o4 := h.own t4
  have hi := free_lt hf
  refine ⟨SlotsIs.fix h4 (h.whole.set i _ (fun c hc => by cases hc; exact ⟨rfl, rfl⟩)) o4.2 (usedVals_set cs i (some _)) (own_set_some h.off (fun hc => by have := hc.1; simp at this; omega)) h.ut h.bs h.bu h.bw o4.1, ⟨.bool (cs[i]).isSome, ?_⟩, frozen_blk o4.2 _⟩
  rw [cell_blk o4.2]; simp [usedVals, hi]

theorem ByI.cellB {w0 : World} {pa : Option Addr} {n : Nat} (hb : ∀ i, i < n → ∃ b o, ∃ z : Int, pa = some ⟨b, o, none⟩ ∧ w0.cell? ⟨b, o + i, none⟩ = some (.int .u8 z) ∧ 0 ≤ z ∧ z ≤ 255) {i : Nat} (hi : i < n) :
    ∃ b o, ∃ z : Int, pa = some ⟨b, o, none⟩ ∧ b < w0.heap.size ∧ 0 ≤ z ∧ z ≤ 255 ∧ ∀ w, Below w0.heap.size w0 w → w.cell? ⟨b, o + i, none⟩ = some (.int .u8 z) := by
  obtain ⟨b, o, z, h1, h2, h3, h4⟩ := hb i hi
  have hlt := World.block_lt_of_cell? _ _ h2
  exact ⟨b, o, z, h1, hlt, h3, h4, fun w hw => (hw.cell (p := ⟨b, o + i, none⟩) hlt).trans h2⟩

set_option maxRecDepth 100000 in
set_option maxHeartbeats 4000000 in
theorem slots21 (w : World) (s : Int) (v : Value) (nb : Nat) (hs0 : 0 ≤ s) (hs1 : s ≤ 255) (hv : ByI w v nb) :
    Calls Try.prog 7 #[.int .u8 s, v] w fun e w' => e = .returned (.bool true) ∧ Below w.heap.size w w' := by
  obtain ⟨n, hn⟩ : ∃ n : Nat, 1 + s % 16 = (n : Int) := ⟨(1 + s % 16).toNat, by omega⟩
  have hn1 : 1 ≤ n := by omega
  have hn16 : n ≤ 16 := by omega
  have hmk : ∀ w, (Instr.makeSlice 48 (.int .i64 n) (.int .i64 n)).run Try.prog w = .ok (.slice (some ⟨w.heap.size, 0, none⟩) n n) (w.alloc (.cells (usedVals (List.replicate n none)) 4)) := fun w => by
    rw [← falses_eq]; exact run_make_row' 48 4 (.bool false) 1 under48 info4 rfl .i64 .i64 n (by omega) (by omega) w
  have HN := Lib.hid hn
  obtain ⟨pa, cap, rfl, hb⟩ := hv
  have HB := Lib.hid hb
  clear hn hb
  go_enter Try.func7, Try.ntmps7
  go_wp2_with fail
  refine (works21 w).mono ?_
  rintro e w1 ⟨rfl, b1⟩
  go_wp2_with fail
  rw [HN.out]
  refine (chNew_ok n 1 w1 (by omega) (by omega) (by omega) (by omega)).mono ?_
  rintro e w2 ⟨rfl, h2, t2⟩
  obtain ⟨sb, hsb⟩ : ∃ sb, w1.heap.size = sb := ⟨_, rfl⟩
  obtain ⟨tb, htb⟩ : ∃ tb, sb + 1 = tb := ⟨_, rfl⟩
  have hws : w.heap.size ≤ sb := by rw [← hsb]; exact b1.size
  rw [hsb, htb] at h2 ⊢
  have b2 := below_turn_n b1 t2 (Nat.le_refl _)
  clear t2 hsb htb b1
  go_wp2_with fail
  obtain ⟨w3, hw3⟩ : ∃ w3, w2.alloc (.cells (usedVals (List.replicate n none)) 4) = w3 := ⟨_, rfl⟩
  rw [hw3]
  obtain ⟨ub, hub⟩ : ∃ ub, w2.heap.size = ub := ⟨_, rfl⟩
  have hu3 : w3.heap[ub]? = some (.cells (usedVals (List.replicate n none)) 4) := by rw [← hw3, ← hub]; exact World.alloc_heap_new w2 _
  have h3 : TabIs w3 tb sb n 1 (List.replicate n none) := by rw [← hw3]; exact h2.turn' ((Turn.refl Nn _).alloc _)
  have hn3 : ¬ TOwn sb (List.replicate n none) ub := by
    rintro (h | ⟨c, hc, _⟩)
    · have := h2.lt; have := h2.ts; omega
    · simp at hc
  have b3 : Below w.heap.size w w3 := by rw [← hw3]; exact b2.alloc b2.size _
  rw [hub]
  have hW3 : Whole (List.replicate n none) := fun c hc => by simp at hc
  have hut : ub ≠ tb := by have := h2.lt; omega
  have hbu : w.heap.size ≤ ub := by have := b2.size; omega
  have H3 := Lib.hid (SlotsIs.mk (B := w.heap.size) (w0 := w) h3 hW3 hu3 hn3 hut hws hbu rfl b3)
  clear hw3 hub h2 b2 hu3 h3 hn3 b3 hW3 hmk hut hbu
  go_loopw [8] (fun i wr => ∃ k : Nat, k ≤ nb ∧ i = .int .i64 k ∧ ∃ cs, SlotsIs w.heap.size w wr tb sb ub n cs) (fun i _ => nb - (intOf i).toNat)
  case atStart => exact ⟨0, Nat.zero_le _, rfl, _, H3.out⟩
  case round =>
    clear H3
    obtain ⟨k, hk, rfl, cs, hS⟩ := hrel
    have hlen := hS.tab.len
    have HS := Lib.hid hS
    clear hS
    by_cases hlt : k < nb ∧ k < 40
    · obtain ⟨hlt1, hlt2⟩ := hlt
      have hlt3 : (k : Int) < (nb : Int) := by omega
      have hlt4 : (k : Int) < 40 := by omega
      go_wp2_with fail
      go_loop [9, 10] (fun l i => ∃ j : Nat, j ≤ n ∧ i = .int .i64 ((j : Int) - 1) ∧ l = .int .i64 (low cs j)) (fun _ i => (intOf i + 1).toNat)
      case atStart => exact ⟨n, Nat.le_refl _, rfl, by rw [low_end _ _ (by omega)]⟩
      case round =>
        obtain ⟨j, hj, rfl, rfl⟩ := hrel
        cases j with
        | succ j =>
          have ej : ((j + 1 : Nat) : Int) - 1 = j := by omega
          rw [ej]
          have hx : j < cs.length := by omega
          have hcell : wr.cell? ⟨ub, j, none⟩ = some (.bool (cs[j]).isSome) := by
            rw [cell_blk HS.out.used]; simp [usedVals, hx]
          have HL := Lib.hid (low_step cs j (o := cs[j]) (by rw [List.getElem?_eq_getElem hx]))
          have hj2 : (j : Int) < (n : Int) := by omega
          clear ej
          cases hcj : cs[j] with
          | none =>
            rw [hcj] at hcell HL
            have hcell : wr.cell? ⟨ub, j, none⟩ = some (.bool false) := hcell
            clear hcj
            go_wp2_with fail
            go_round
            case rel => exact ⟨j, by omega, by go_num, by rw [HL.out]; rfl⟩
            case measure => simp [intOf]
          | some c =>
            rw [hcj] at hcell HL
            have hcell : wr.cell? ⟨ub, j, none⟩ = some (.bool true) := hcell
            clear hcj
            go_wp2_with fail
            go_round
            case rel => exact ⟨j, by omega, by go_num, by rw [HL.out]; rfl⟩
            case measure => simp [intOf]
        | zero =>
          rw [low_zero]
          obtain ⟨bb, bo, z, rfl, hbb, hz0, hz1, hzc⟩ := ByI.cellB HB.out hlt1
          have HZ := Lib.hid hzc
          have hbu : ub ≠ bb := by have := HS.out.bu; omega
          obtain ⟨q, hq⟩ : ∃ q : Nat, z % (n : Int) = (q : Int) := ⟨(z % (n : Int)).toNat, by have := Int.emod_nonneg z (show (n : Int) ≠ 0 by omega); omega⟩
          have hqn : q < n := by have := Int.emod_lt_of_pos z (show (0 : Int) < n by omega); omega
          have HQ := Lib.hid hq
          clear hzc hq
          have hzn0 : 0 ≤ z % (n : Int) := by have := HQ.out; omega
          have hzn1 : z % (n : Int) ≤ 15 := by have := HQ.out; omega
          cases hf : free cs with
          | none =>
            have HI := Lib.hid (show idxOf cs = -1 by unfold idxOf; rw [hf])
            have HM := Lib.hid (show makeT cs wr.heap.size = (-1, 22, cs) by unfold makeT; rw [hf])
            clear hf
            rw [HI.out]
            go_wp2_with fail
            refine (make_any HS.out.tab HM.out).mono ?_
            rintro e w4 ⟨rfl, h4, t4⟩
            have S5 := Lib.hid (HS.out.same h4 t4)
            have hz := HZ.out w4 S5.out.below
            clear h4 t4
            by_cases hz7 : z ≤ 127
            · go_wp2_with fail
              all_goals go_roundw
              case rel => exact ⟨k + 1, by omega, by go_num, _, S5.out⟩
              case measure => simp [intOf]; omega
            · have hq5 : q < (cs).length := by have := S5.out.tab.len; omega
              cases hc : (cs)[q] with
              | none =>
                have hcq : (cs)[q]? = some none := by rw [List.getElem?_eq_getElem hq5, hc]
                have HC0 := Lib.hid (closeT_free0 hcq)
                have HC1 := Lib.hid (closeT_free1 hcq)
                have HCQ := Lib.hid hcq
                clear hc hcq
                go_wp2_with fail
                rw [HQ.out]
                refine (close_any S5.out.tab HC0.out).mono ?_
                rintro e w6 ⟨rfl, h6, t6⟩
                have S6 := Lib.hid (S5.out.same h6 t6)
                clear h6 t6
                go_wp2_with fail
                refine (close_any S6.out.tab HC1.out).mono ?_
                rintro e w7 ⟨rfl, h7, t7⟩
                have S7 := Lib.hid (S6.out.same h7 t7)
                have hu7 : w7.cell? ⟨ub, q, none⟩ = some (.bool false) := S7.out.cellU HCQ.out
                have hf7 := S7.out.fzU q
                have S8 := Lib.hid (SlotsIs.fix S7.out.tab S7.out.whole S7.out.used (usedVals_same HCQ.out) S7.out.off S7.out.ut S7.out.bs S7.out.bu S7.out.bw S7.out.below)
                clear h7 t7
                try rw [HQ.out]
                have hqn2 : (q : Int) < (n : Int) := by omega
                go_wp2_with fail
                go_roundw
                case rel => exact ⟨k + 1, by omega, by go_num, _, S8.out⟩
                case measure => simp [intOf]; omega
              | some c =>
                have hcq : (cs)[q]? = some (some c) := by rw [List.getElem?_eq_getElem hq5, hc]
                have hco := S5.out.whole c (List.mem_of_getElem? hcq)
                have HC0 := Lib.hid (closeT_one hcq hco.1 hco.2)
                have HC1 := Lib.hid (closeT_two (c := c.shut false) (get_set_self hcq) rfl hco.2)
                have HCQ := Lib.hid hcq
                clear hc hcq hco
                go_wp2_with fail
                rw [HQ.out]
                refine (close_any S5.out.tab HC0.out).mono ?_
                rintro e w6 ⟨rfl, h6, t6⟩
                have H6 := Lib.hid (And.intro h6 t6)
                clear h6 t6
                go_wp2_with fail
                refine (close_any H6.out.1 HC1.out).mono ?_
                rintro e w7 ⟨rfl, h7, t7⟩
                obtain ⟨s8, hu7, hf7⟩ := S5.out.gone HCQ.out H6.out.2 H6.out.1 h7 t7
                have S8 := Lib.hid s8
                clear h7 t7 s8
                try rw [HQ.out]
                have hqn2 : (q : Int) < (n : Int) := by omega
                go_wp2_with fail
                go_roundw
                case rel => exact ⟨k + 1, by omega, by go_num, _, S8.out⟩
                case measure => simp [intOf]; omega
          | some i =>
            have hin : i < n := by have := free_lt hf; omega
            have hin2 : (i : Int) < (n : Int) := by omega
            have HI := Lib.hid (show idxOf cs = i by unfold idxOf; rw [hf])
            have HM := Lib.hid (show makeT cs wr.heap.size = ((i : Int), 0, cs.set i (some ⟨wr.heap.size, true, true, [], []⟩)) by unfold makeT; rw [hf])
            have HF := Lib.hid hf
            clear hf
            rw [HI.out]
            go_wp2_with fail
            refine (make_any HS.out.tab HM.out).mono ?_
            rintro e w4 ⟨rfl, h4, t4⟩
            obtain ⟨s5, ⟨v4, hv4⟩, hf4⟩ := HS.out.made HF.out h4 t4
            have S5 := Lib.hid s5
            have hz := HZ.out w4 (HS.out.own t4).1
            clear h4 t4 s5
            by_cases hz7 : z ≤ 127
            · go_wp2_with fail
              all_goals go_roundw
              case rel => exact ⟨k + 1, by omega, by go_num, _, S5.out⟩
              case measure => simp [intOf]; omega
            · have hq5 : q < (cs.set i (some ⟨wr.heap.size, true, true, [], []⟩)).length := by have := S5.out.tab.len; omega
              cases hc : (cs.set i (some ⟨wr.heap.size, true, true, [], []⟩))[q] with
              | none =>
                have hcq : (cs.set i (some ⟨wr.heap.size, true, true, [], []⟩))[q]? = some none := by rw [List.getElem?_eq_getElem hq5, hc]
                have HC0 := Lib.hid (closeT_free0 hcq)
                have HC1 := Lib.hid (closeT_free1 hcq)
                have HCQ := Lib.hid hcq
                clear hc hcq
                go_wp2_with fail
                rw [HQ.out]
                refine (close_any S5.out.tab HC0.out).mono ?_
                rintro e w6 ⟨rfl, h6, t6⟩
                have S6 := Lib.hid (S5.out.same h6 t6)
                clear h6 t6
                go_wp2_with fail
                refine (close_any S6.out.tab HC1.out).mono ?_
                rintro e w7 ⟨rfl, h7, t7⟩
                have S7 := Lib.hid (S6.out.same h7 t7)
                have hu7 : w7.cell? ⟨ub, q, none⟩ = some (.bool false) := S7.out.cellU HCQ.out
                have hf7 := S7.out.fzU q
                have S8 := Lib.hid (SlotsIs.fix S7.out.tab S7.out.whole S7.out.used (usedVals_same HCQ.out) S7.out.off S7.out.ut S7.out.bs S7.out.bu S7.out.bw S7.out.below)
                clear h7 t7
                try rw [HQ.out]
                have hqn2 : (q : Int) < (n : Int) := by omega
                go_wp2_with fail
                go_roundw
                case rel => exact ⟨k + 1, by omega, by go_num, _, S8.out⟩
                case measure => simp [intOf]; omega
              | some c =>
                have hcq : (cs.set i (some ⟨wr.heap.size, true, true, [], []⟩))[q]? = some (some c) := by rw [List.getElem?_eq_getElem hq5, hc]
                have hco := S5.out.whole c (List.mem_of_getElem? hcq)
                have HC0 := Lib.hid (closeT_one hcq hco.1 hco.2)
                have HC1 := Lib.hid (closeT_two (c := c.shut false) (get_set_self hcq) rfl hco.2)
                have HCQ := Lib.hid hcq
                clear hc hcq hco
                go_wp2_with fail
                rw [HQ.out]
                refine (close_any S5.out.tab HC0.out).mono ?_
                rintro e w6 ⟨rfl, h6, t6⟩
                have H6 := Lib.hid (And.intro h6 t6)
                clear h6 t6
                go_wp2_with fail
                refine (close_any H6.out.1 HC1.out).mono ?_
                rintro e w7 ⟨rfl, h7, t7⟩
                obtain ⟨s8, hu7, hf7⟩ := S5.out.gone HCQ.out H6.out.2 H6.out.1 h7 t7
                have S8 := Lib.hid s8
                clear h7 t7 s8
                try rw [HQ.out]
                have hqn2 : (q : Int) < (n : Int) := by omega
                go_wp2_with fail
                go_roundw
                case rel => exact ⟨k + 1, by omega, by go_num, _, S8.out⟩
                case measure => simp [intOf]; omega
    · go_wp2_with fail
      all_goals
        go_ret
        exact ⟨rfl, HS.out.below⟩
end Go.Proofs.Ytjnekmdocbmofaa
