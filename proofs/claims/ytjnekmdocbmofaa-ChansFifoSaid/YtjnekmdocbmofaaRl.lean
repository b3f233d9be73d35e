/- Whatever is done with channels is answered as the document says: the law's walk. -/
import Derived.Test.YtjnekmdocbmofaaRk
namespace Go.Proofs.Ytjnekmdocbmofaa
set_option linter.unusedSimpArgs false
set_option linter.unusedVariables false
open Go.RowKit Go.Shelf

/-- A slice of acts that came in. -/
def ActI (w : World) (pa : Option Addr) (n : Nat) : Prop := ∀ i, i < n → ∃ b o, ∃ a e x : Int, pa = some ⟨b, o, none⟩ ∧ 0 ≤ a ∧ a ≤ 255 ∧ w.cell? ⟨b, o + i * 3, none⟩ = some (.int .u8 a) ∧ w.cell? ⟨b, o + i * 3 + 1, none⟩ = some (.int .i64 e) ∧ w.cell? ⟨b, o + i * 3 + 2, none⟩ = some (.int .i64 x)

theorem ActI.at {w0 : World} {pa : Option Addr} {n : Nat} (h : ActI w0 pa n) {i : Nat} (hi : i < n) :
    ∃ b o, ∃ a e x : Int, pa = some ⟨b, o, none⟩ ∧ b < w0.heap.size ∧ 0 ≤ a ∧ a ≤ 255 ∧ ∀ w, Below w0.heap.size w0 w → w.cell? ⟨b, o + i * 3, none⟩ = some (.int .u8 a) ∧ w.cell? ⟨b, o + i * 3 + 1, none⟩ = some (.int .i64 e) ∧ w.cell? ⟨b, o + i * 3 + 2, none⟩ = some (.int .i64 x) := by
  obtain ⟨b, o, a, e, x, h1, h2, h3, h4, h5, h6⟩ := h i hi
  have hlt := World.block_lt_of_cell? _ _ h4
  exact ⟨b, o, a, e, x, h1, hlt, h2, h3, fun w hw => ⟨(hw.cell (p := ⟨b, o + i * 3, none⟩) hlt).trans h4, (hw.cell (p := ⟨b, o + i * 3 + 1, none⟩) hlt).trans h5, (hw.cell (p := ⟨b, o + i * 3 + 2, none⟩) hlt).trans h6⟩⟩

/-- Both tables, and the act at xb, apart. -/
structure BothX (B : Nat) (w0 w : World) (tb sb rb rs n m : Nat) (ct cr : List (Option Ch)) (xb : Nat) (V : Array Value) : Prop where
  tab : TabIs w tb sb n m ct
  ref : ∃ cur vs, RefTab w rb rs n m cr cur vs ∧ (∀ k, (k = tb ∨ TOwn sb ct k) → k ≠ rb ∧ ¬ ROwn rs cr vs k) ∧ ¬ ROwn rs cr vs xb
  x : w.heap[xb]? = some (.cells V 57)
  xt : ¬ TOwn sb ct xb
  bs : B ≤ sb
  br : B ≤ rs
  bw : B = w0.heap.size
  below : Below B w0 w

variable {B : Nat} {w0 w w' : World} {tb sb rb rs n m : Nat} {ct cr ct' cr' cs : List (Option Ch)} {xb : Nat} {V : Array Value}

theorem BothX.both (h : BothX B w0 w tb sb rb rs n m ct cr xb V) : Both B w0 w tb sb rb rs n m ct cr := by
  obtain ⟨cur, vs, h1, h2, h3⟩ := h.ref
  exact ⟨h.tab, ⟨cur, vs, h1, h2⟩, h.bs, h.br, h.bw, h.below⟩
theorem Both.x (h : Both B w0 w tb sb rb rs n m ct cr) (V : Array Value) : BothX B w0 (w.alloc (.cells V 57)) tb sb rb rs n m ct cr w.heap.size V := by
  have h' := h.idle ((Turn.refl Nn w).alloc (.cells V 57))
  obtain ⟨cur, vs, h1, h2⟩ := h.ref
  obtain ⟨cur', vs', _⟩ := h'.ref
  refine ⟨h'.tab, ⟨cur, vs, h1.turn ((Turn.refl Nn w).alloc _) (fun _ h => h.elim), h2, fun hk => ?_⟩, World.alloc_heap_new w _, fun hk => ?_, h.bs, h.br, h.bw, h'.below⟩
  · have := h1.own_lt hk; omega
  · have := h.tab.own_lt hk; omega
theorem BothX.goA (h : BothX B w0 w tb sb rb rs n m ct cr xb V) (h' : TabIs w' tb sb n m ct') (t : Turn (TOwn sb ct) w w') (ho : ∀ k, TOwn sb ct' k → TOwn sb ct k ∨ w.heap.size ≤ k) : BothX B w0 w' tb sb rb rs n m ct' cr xb V := by
  have hx := heap_lt h.x
  obtain ⟨cur, vs, h1, h2, h3⟩ := h.ref
  refine ⟨h', ⟨cur, vs, h1.turn t (fun k hk => h2 k (.inr hk)), fun k hk => ?_, h3⟩, (t.block _ hx h.xt).trans h.x, fun hk => ?_, h.bs, h.br, h.bw, below_turn_t h.below h.tab t h.bs⟩
  · rcases hk with hk | hk
    · exact h2 k (.inl hk)
    · rcases ho k hk with hk | hk
      · exact h2 k (.inr hk)
      · exact ⟨by have := heap_lt h1.tab; omega, fun hr => by have := h1.own_lt hr; omega⟩
  · rcases ho _ hk with hk | hk
    · exact h.xt hk
    · omega
theorem BothX.goB (h : BothX B w0 w tb sb rb rs n m ct cr xb V) {cur vs} (h1 : RefTab w rb rs n m cr cur vs) (h2 : ∀ k, (k = tb ∨ TOwn sb ct k) → k ≠ rb ∧ ¬ ROwn rs cr vs k) (h3 : ¬ ROwn rs cr vs xb) (hg : RefGoes w w' rb rs n m cr cr' vs) : BothX B w0 w' tb sb rb rs n m ct cr' xb V := by
  have hx := heap_lt h.x
  obtain ⟨⟨cur2, vs2, h4, h5⟩, t⟩ := hg
  refine ⟨h.tab.turnS t (fun k hk => ⟨fun ht => (h2 k (.inr ht)).2 hk, fun e => (h2 k (.inl e)).2 hk⟩), ⟨cur2, vs2, h4, fun k hk => ⟨(h2 k hk).1, fun hk2 => ?_⟩, fun hk => ?_⟩, (t.block _ hx h3).trans h.x, h.xt, h.bs, h.br, h.bw, Turn.below h.below t (fun k hk => Nat.le_trans h.br (h1.own_ge hk)) (by have := h.below.size; have := h.bw; omega)⟩
  · rcases h5 k hk2 with h6 | h6
    · exact (h2 k hk).2 h6
    · rcases hk with rfl | hk
      · have := heap_lt h.tab.tab; omega
      · have := h.tab.own_lt hk; omega
  · rcases h5 _ hk with h6 | h6
    · exact h3 h6
    · omega
theorem BothX.idle (h : BothX B w0 w tb sb rb rs n m ct cr xb V) (t : Turn Nn w w') : BothX B w0 w' tb sb rb rs n m ct cr xb V := by
  obtain ⟨cur, vs, h1, h2, h3⟩ := h.ref
  exact ⟨h.tab.turn' t, ⟨cur, vs, h1.turn t (fun _ h => h.elim), h2, h3⟩, (t.block _ (heap_lt h.x) (fun h => h)).trans h.x, h.xt, h.bs, h.br, h.bw, below_turn_n h.below t (by have := h.bw; omega)⟩
theorem BothX.drew (h : BothX B w0 w tb sb rb rs n m ct cr xb V) : BothX B w0 w.drew tb sb rb rs n m ct cr xb V := h.idle (Turn.refl _ _).drew
theorem BothX.c0 {a e x : Int} (h : BothX B w0 w tb sb rb rs n m ct cr xb #[.int .u8 a, .int .i64 e, .int .i64 x]) : w.cell? ⟨xb, 0, none⟩ = some (.int .u8 a) := by rw [cell_blk h.x]; rfl
theorem BothX.c1 {a e x : Int} (h : BothX B w0 w tb sb rb rs n m ct cr xb #[.int .u8 a, .int .i64 e, .int .i64 x]) : w.cell? ⟨xb, 1, none⟩ = some (.int .i64 e) := by rw [cell_blk h.x]; rfl
theorem BothX.c2 {a e x : Int} (h : BothX B w0 w tb sb rb rs n m ct cr xb #[.int .u8 a, .int .i64 e, .int .i64 x]) : w.cell? ⟨xb, 2, none⟩ = some (.int .i64 x) := by rw [cell_blk h.x]; rfl

/-- The act's cells. -/
def SX (xb : Nat) (e x : Int) (u : World) : Prop := u.cell? ⟨xb, 1, none⟩ = some (.int .i64 e) ∧ u.cell? ⟨xb, 2, none⟩ = some (.int .i64 x)
theorem BothX.sx {a e x : Int} (h : BothX B w0 w tb sb rb rs n m ct cr xb #[.int .u8 a, .int .i64 e, .int .i64 x]) : SX xb e x w := ⟨h.c1, h.c2⟩

set_option maxRecDepth 100000 in
set_option maxHeartbeats 4000000 in
theorem plays21_bad (w : World) (s m : Int) (v : Value) (h : s ≤ 0 ∨ 64 < s ∨ m ≤ 0 ∨ 16 < m) :
    Calls Try.prog 8 #[.int .i64 s, .int .i64 m, v] w fun e w' => e = .returned (.bool true) ∧ Below w.heap.size w w' := by
  have HB := Lib.hid h
  clear h
  go_enter Try.func8, Try.ntmps8
  go_wp2_with fail
  refine (chNew_bad s m w HB.out).mono ?_
  rintro e w' ⟨rfl, rfl⟩
  go_wp2_with fail
  refine (refNew21_bad s m w HB.out).mono ?_
  rintro e w' ⟨rfl, rfl⟩
  go_wp2_with fail
  refine (works21 w).mono ?_
  rintro e w1 ⟨rfl, b1⟩
  go_wp2_with fail
  go_ret
  exact ⟨rfl, b1⟩

set_option maxRecDepth 100000 in
set_option maxHeartbeats 16000000 in
theorem plays21_ok (w : World) (n m : Nat) (pa : Option Addr) (cap nb : Nat) (hn1 : 1 ≤ n) (hn2 : n ≤ 64) (hm1 : 1 ≤ m) (hm2 : m ≤ 16) (hv : ActI w pa nb) :
    Calls Try.prog 8 #[.int .i64 n, .int .i64 m, .slice pa nb cap] w fun e w' => e = .returned (.bool true) ∧ Below w.heap.size w w' := by
  have HA := Lib.hid hv
  clear hv
  go_enter Try.func8, Try.ntmps8
  go_wp2_with fail
  refine (chNew_ok n m w hn1 hn2 hm1 hm2).mono ?_
  rintro e w1 ⟨rfl, h1, t1⟩
  go_wp2_with fail
  refine (refNew21_ok n m w1 hn1 hn2 hm1 hm2).mono ?_
  rintro e w2 ⟨rfl, h2, t2⟩
  have hB2 : Both w.heap.size w w2 (w.heap.size + 1) w.heap.size (w1.heap.size + 1) w1.heap.size n m (List.replicate n none) (List.replicate n none) := by
    have hlt := h1.lt
    refine ⟨h1.turn' t2, ⟨_, _, h2, fun k hk => ?_⟩, Nat.le_refl _, t1.size, rfl, below_turn_n (below_turn_n (Below.refl _ _) t1 (Nat.le_refl _)) t2 (Nat.le_refl _)⟩
    have hk1 : k ≤ w.heap.size + 1 := by
      rcases hk with hk | hk | ⟨c, hc, _⟩
      · omega
      · omega
      · simp at hc
    refine ⟨by omega, fun hr => ?_⟩
    rcases hr with hr | ⟨i, s, c, hc, _⟩
    · omega
    · rw [List.getElem?_replicate] at hc; split at hc <;> simp at hc
  obtain ⟨sb, hsb⟩ : ∃ sb, w.heap.size = sb := ⟨_, rfl⟩
  obtain ⟨tb, htb⟩ : ∃ tb, w.heap.size + 1 = tb := ⟨_, rfl⟩
  obtain ⟨rs, hrs⟩ : ∃ rs, w1.heap.size = rs := ⟨_, rfl⟩
  obtain ⟨rb, hrb⟩ : ∃ rb, w1.heap.size + 1 = rb := ⟨_, rfl⟩
  rw [htb, hrb, hrs, show Both w.heap.size w w2 tb w.heap.size rb rs n m (List.replicate n none) (List.replicate n none) = Both w.heap.size w w2 tb sb rb rs n m (List.replicate n none) (List.replicate n none) by rw [hsb]] at hB2
  rw [htb, hrb]
  have HB2 := Lib.hid hB2
  clear h1 h2 t1 t2 hB2 hsb htb hrs hrb
  go_wp2_with fail
  go_loopw [9] (fun i wr => ∃ k : Nat, k ≤ nb ∧ i = .int .i64 k ∧ ∃ cs, Both w.heap.size w wr tb sb rb rs n m cs cs) (fun i _ => nb - (intOf i).toNat)
  case atStart => exact ⟨0, Nat.zero_le _, rfl, _, HB2.out⟩
  case round =>
    clear HB2
    obtain ⟨k, hk, rfl, cs, hB⟩ := hrel
    have HB := Lib.hid hB
    clear hB
    by_cases hlt : k < nb ∧ k < 60
    · obtain ⟨hlt1, hlt2⟩ := hlt
      have hlt3 : (k : Int) < (nb : Int) := by omega
      have hlt4 : (k : Int) < 60 := by omega
      obtain ⟨bb, bo, a, e, x, rfl, hbb, ha0, ha1, hac⟩ := HA.out.at hlt1
      obtain ⟨hc0, hc1, hc2⟩ := hac wr HB.out.below
      have hX := HB.out.x #[.int .u8 a, .int .i64 e, .int .i64 x]
      clear hac
      have hcase : a % 6 = 0 ∨ a % 6 = 1 ∨ a % 6 = 2 ∨ a % 6 = 3 ∨ a % 6 = 4 ∨ a % 6 = 5 := by omega
      obtain ⟨w3, hw3⟩ : ∃ w3, wr.alloc (.cells #[.int .u8 a, .int .i64 e, .int .i64 x] 57) = w3 := ⟨_, rfl⟩
      obtain ⟨xb, hxb⟩ : ∃ xb, wr.heap.size = xb := ⟨_, rfl⟩
      rw [hw3, hxb] at hX
      have HX := Lib.hid hX
      have HW3 := Lib.hid hw3
      have HXB := Lib.hid hxb
      clear hX hw3 hxb
      rcases hcase with h6 | h6 | h6 | h6 | h6 | h6
      · go_wp2_with fail
        rw [HXB.out]
        rw [HW3.out]
        clear HXB HW3 HB
        obtain ⟨i, z, cs', hz⟩ : ∃ i z cs', makeT cs w3.heap.size = (i, z, cs') := ⟨_, _, _, rfl⟩
        refine (make_any HX.out.tab hz).mono ?_
        rintro r w4 ⟨rfl, h4, t4⟩
        have HX4 := Lib.hid (HX.out.goA h4 t4 (fun k hk => makeT_own hz hk))
        have HMK := Lib.hid hz
        clear h4 t4 hz HX
        go_wp2_with fail
        obtain ⟨cur5, vs5, hR5, hd5, hx5⟩ := HX4.out.ref
        refine (refMake_any hR5 w3.heap.size HMK.out).mono ?_
        rintro r w6 ⟨rfl, g6⟩
        have HY := Lib.hid (HX4.out.goB hR5 hd5 hx5 g6)
        clear hR5 hd5 hx5 g6 cur5 vs5 HX4
        have hz1 := HY.out.c1
        go_wp2_with fail
        refine (live_any HY.out.tab).mono ?_
        rintro r w' ⟨rfl, rfl⟩
        go_wp2_with fail
        obtain ⟨cur9, vs9, hR9, hd9⟩ := HY.out.ref
        refine (refLive_any hR9).mono ?_
        rintro r w' ⟨rfl, rfl⟩
        clear hd9 hR9 cur9 vs9
        go_wp2_with fail
        refine (alike_any HY.out.both e).mono ?_
        rintro r w8 ⟨rfl, t8⟩
        have HZ := Lib.hid (HY.out.both.idle t8)
        clear t8 hz1 HY
        go_wp2_with fail
        go_loopw [19] (fun i wq => ∃ j : Nat, i = .int .i64 ((j : Int) - 1) ∧ j ≤ 14 ∧ Both w.heap.size w wq tb sb rb rs n m cs' cs') (fun i _ => (14 - intOf i).toNat)
        case atStart => exact ⟨0, rfl, by omega, HZ.out⟩
        case round =>
          clear HZ
          obtain ⟨j, rfl, hj, hB⟩ := hrel
          have HQ := Lib.hid hB
          clear hB
          by_cases hjl : (j : Int) - 1 ≤ 2 * (n : Int) ∧ (j : Int) - 1 < 13
          · obtain ⟨hj1, hj2⟩ := hjl
            go_wp2_with fail
            refine (alike_any HQ.out ((j : Int) - 1)).mono ?_
            rintro r w9 ⟨rfl, t9⟩
            have HQ2 := Lib.hid (HQ.out.idle t9)
            clear t9
            go_wp2_with fail
            go_roundw
            case rel => exact ⟨j + 1, by go_num, by omega, HQ2.out⟩
            case measure => simp [intOf]; omega
          · have HJ := Lib.hid hjl
            clear hjl
            by_cases hj1 : (j : Int) - 1 ≤ 2 * (n : Int)
            · have hj2 : ¬ (j : Int) - 1 < 13 := fun h => HJ.out ⟨hj1, h⟩
              go_wp2_with fail
              go_roundw
              case rel => exact ⟨k + 1, by omega, by go_num, _, HQ.out⟩
              case measure => simp [intOf]; omega
            · go_wp2_with fail
              go_roundw
              case rel => exact ⟨k + 1, by omega, by go_num, _, HQ.out⟩
              case measure => simp [intOf]; omega
      · go_wp2_with fail
        rw [HXB.out]
        rw [HW3.out]
        clear HXB HW3 HB
        obtain ⟨z, cs', hz⟩ : ∃ z cs', putT cs m e x = (z, cs') := ⟨_, _, rfl⟩
        have HMK := Lib.hid hz
        clear hz
        refine held_begin (SX xb e x) (by kernel_rfl) ?_
        have hS : SX xb e x w3.drew := HX.out.drew.sx
        refine held_take 0 ?_ rfl (by kernel_rfl) (by kernel_rfl) (by kernel_rfl) (fun _ _ _ h => h) (Or.inl ⟨by kernel_rfl, ?_⟩) hS ?_
        rotate_left 1
        · intro u hu; obtain ⟨hu1, hu2⟩ := hu; go_simp; first | done | with_reducible rfl
        try simp only [Act.put, List.getElem_toArray, List.getElem_cons_succ, List.getElem_cons_zero, List.setIfInBounds_toArray, List.set_cons_succ, List.set_cons_zero]
        refine held_take 1 ?_ rfl (by kernel_rfl) (by kernel_rfl) (by kernel_rfl) (fun _ _ _ h => h) (Or.inl ⟨by kernel_rfl, ?_⟩) hS ?_
        rotate_left 1
        · intro u hu; obtain ⟨hu1, hu2⟩ := hu; go_simp; first | done | with_reducible rfl
        try simp only [Act.put, List.getElem_toArray, List.getElem_cons_succ, List.getElem_cons_zero, List.setIfInBounds_toArray, List.set_cons_succ, List.set_cons_zero]
        refine held_take 2 ?_ rfl (by kernel_rfl) (by kernel_rfl) (by kernel_rfl) (fun _ _ _ h => h) (Or.inl ⟨by kernel_rfl, ?_⟩) hS ?_
        rotate_left 1
        · intro u hu; obtain ⟨hu1, hu2⟩ := hu; go_simp; first | done | with_reducible rfl
        try simp only [Act.put, List.getElem_toArray, List.getElem_cons_succ, List.getElem_cons_zero, List.setIfInBounds_toArray, List.set_cons_succ, List.set_cons_zero]
        refine held_take 3 ?_ rfl (by kernel_rfl) (by kernel_rfl) (by kernel_rfl) (fun _ _ _ h => h) (Or.inl ⟨by kernel_rfl, ?_⟩) hS ?_
        rotate_left 1
        · intro u hu; obtain ⟨hu1, hu2⟩ := hu; go_simp; first | done | with_reducible rfl
        try simp only [Act.put, List.getElem_toArray, List.getElem_cons_succ, List.getElem_cons_zero, List.setIfInBounds_toArray, List.set_cons_succ, List.set_cons_zero]
        refine held_take 4 ?_ rfl (by kernel_rfl) (by kernel_rfl) (by kernel_rfl) (fun _ _ _ h => h) (Or.inl ⟨by kernel_rfl, ?_⟩) hS ?_
        rotate_left 1
        · intro u hu; obtain ⟨hu1, hu2⟩ := hu; go_simp; first | done | with_reducible rfl
        try simp only [Act.put, List.getElem_toArray, List.getElem_cons_succ, List.getElem_cons_zero, List.setIfInBounds_toArray, List.set_cons_succ, List.set_cons_zero]
        refine held_take 6 ?_ rfl (by kernel_rfl) (by kernel_rfl) (by kernel_rfl) (fun _ _ _ h => h) (Or.inl ⟨by kernel_rfl, ?_⟩) hS ?_
        rotate_left 1
        · intro u hu; obtain ⟨hu1, hu2⟩ := hu; go_simp; first | done | with_reducible rfl
        try simp only [Act.put, List.getElem_toArray, List.getElem_cons_succ, List.getElem_cons_zero, List.setIfInBounds_toArray, List.set_cons_succ, List.set_cons_zero]
        refine held_take 7 ?_ rfl (by kernel_rfl) (by kernel_rfl) (by kernel_rfl) (fun _ _ _ h => h) (Or.inl ⟨by kernel_rfl, ?_⟩) hS ?_
        rotate_left 1
        · intro u hu; obtain ⟨hu1, hu2⟩ := hu; go_simp; first | done | with_reducible rfl
        try simp only [Act.put, List.getElem_toArray, List.getElem_cons_succ, List.getElem_cons_zero, List.setIfInBounds_toArray, List.set_cons_succ, List.set_cons_zero]
        refine held_take 8 ?_ rfl (by kernel_rfl) (by kernel_rfl) (by kernel_rfl) (fun _ _ _ h => h) (Or.inl ⟨by kernel_rfl, ?_⟩) hS ?_
        rotate_left 1
        · intro u hu; obtain ⟨hu1, hu2⟩ := hu; go_simp; first | done | with_reducible rfl
        try simp only [Act.put, List.getElem_toArray, List.getElem_cons_succ, List.getElem_cons_zero, List.setIfInBounds_toArray, List.set_cons_succ, List.set_cons_zero]
        refine held_take 9 ?_ rfl (by kernel_rfl) (by kernel_rfl) (by kernel_rfl) (fun _ _ _ h => h) (Or.inl ⟨by kernel_rfl, ?_⟩) hS ?_
        rotate_left 1
        · intro u hu; obtain ⟨hu1, hu2⟩ := hu; go_simp; first | done | with_reducible rfl
        try simp only [Act.put, List.getElem_toArray, List.getElem_cons_succ, List.getElem_cons_zero, List.setIfInBounds_toArray, List.set_cons_succ, List.set_cons_zero]
        refine held_take 10 ?_ rfl (by kernel_rfl) (by kernel_rfl) (by kernel_rfl) (fun _ _ _ h => h) (Or.inl ⟨by kernel_rfl, ?_⟩) hS ?_
        rotate_left 1
        · intro u hu; obtain ⟨hu1, hu2⟩ := hu; go_simp; first | done | with_reducible rfl
        try simp only [Act.put, List.getElem_toArray, List.getElem_cons_succ, List.getElem_cons_zero, List.setIfInBounds_toArray, List.set_cons_succ, List.set_cons_zero]
        refine held_one 5 (by kernel_rfl) rfl (by kernel_rfl) (fun Ka hKa => ?_)
        go_simp
        refine (put_any HX.out.drew.tab HMK.out).mono ?_
        rintro r w4 ⟨rfl, h4, t4⟩
        have HX4 := Lib.hid (HX.out.drew.goA h4 t4 (fun k hk => .inl (putT_own HMK.out hk)))
        have hS4 := HX4.out.sx
        refine hKa _ _ hS4 ?_
        clear hKa Ka hS h4 t4 HX
        try simp only [Act.put, List.getElem_toArray, List.getElem_cons_succ, List.getElem_cons_zero, List.setIfInBounds_toArray, List.set_cons_succ, List.set_cons_zero]
        refine held_one 11 (by kernel_rfl) rfl (by kernel_rfl) (fun Kb hKb => ?_)
        go_simp
        obtain ⟨cur5, vs5, hR5, hd5, hx5⟩ := HX4.out.ref
        refine (refPut_any hR5 HMK.out).mono ?_
        rintro r w6 ⟨rfl, g6⟩
        have HY := Lib.hid (HX4.out.goB hR5 hd5 hx5 g6)
        have hS6 := HY.out.sx
        refine hKb _ _ hS6 ?_
        clear hKb Kb hR5 hd5 hx5 g6 cur5 vs5 HX4 hS4
        try simp only [Act.put, List.getElem_toArray, List.getElem_cons_succ, List.getElem_cons_zero, List.setIfInBounds_toArray, List.set_cons_succ, List.set_cons_zero]
        refine held_take 12 ?_ rfl (by kernel_rfl) (by kernel_rfl) (by kernel_rfl) (fun _ _ _ h => h) (Or.inl ⟨by kernel_rfl, ?_⟩) hS6 ?_
        rotate_left 1
        · intro u hu; obtain ⟨hu1, hu2⟩ := hu; go_simp; first | done | with_reducible rfl
        try simp only [Act.put, List.getElem_toArray, List.getElem_cons_succ, List.getElem_cons_zero, List.setIfInBounds_toArray, List.set_cons_succ, List.set_cons_zero]
        refine wpAnyH_done (by kernel_rfl) ?_ _
        have hz1 := HY.out.c1
        go_wp2_with fail
        refine (live_any HY.out.tab).mono ?_
        rintro r w' ⟨rfl, rfl⟩
        go_wp2_with fail
        obtain ⟨cur9, vs9, hR9, hd9⟩ := HY.out.ref
        refine (refLive_any hR9).mono ?_
        rintro r w' ⟨rfl, rfl⟩
        clear hd9 hR9 cur9 vs9
        go_wp2_with fail
        refine (alike_any HY.out.both e).mono ?_
        rintro r w8 ⟨rfl, t8⟩
        have HZ := Lib.hid (HY.out.both.idle t8)
        clear t8 hz1 HY
        go_wp2_with fail
        go_loopw [19] (fun i wq => ∃ j : Nat, i = .int .i64 ((j : Int) - 1) ∧ j ≤ 14 ∧ Both w.heap.size w wq tb sb rb rs n m cs' cs') (fun i _ => (14 - intOf i).toNat)
        case atStart => exact ⟨0, rfl, by omega, HZ.out⟩
        case round =>
          clear HZ
          obtain ⟨j, rfl, hj, hB⟩ := hrel
          have HQ := Lib.hid hB
          clear hB
          by_cases hjl : (j : Int) - 1 ≤ 2 * (n : Int) ∧ (j : Int) - 1 < 13
          · obtain ⟨hj1, hj2⟩ := hjl
            go_wp2_with fail
            refine (alike_any HQ.out ((j : Int) - 1)).mono ?_
            rintro r w9 ⟨rfl, t9⟩
            have HQ2 := Lib.hid (HQ.out.idle t9)
            clear t9
            go_wp2_with fail
            go_roundw
            case rel => exact ⟨j + 1, by go_num, by omega, HQ2.out⟩
            case measure => simp [intOf]; omega
          · have HJ := Lib.hid hjl
            clear hjl
            by_cases hj1 : (j : Int) - 1 ≤ 2 * (n : Int)
            · have hj2 : ¬ (j : Int) - 1 < 13 := fun h => HJ.out ⟨hj1, h⟩
              go_wp2_with fail
              go_roundw
              case rel => exact ⟨k + 1, by omega, by go_num, _, HQ.out⟩
              case measure => simp [intOf]; omega
            · go_wp2_with fail
              go_roundw
              case rel => exact ⟨k + 1, by omega, by go_num, _, HQ.out⟩
              case measure => simp [intOf]; omega
      · go_wp2_with fail
        rw [HXB.out]
        rw [HW3.out]
        clear HXB HW3 HB
        obtain ⟨z, cs', hz⟩ : ∃ z cs', putT cs m e x = (z, cs') := ⟨_, _, rfl⟩
        have HMK := Lib.hid hz
        clear hz
        refine held_begin (SX xb e x) (by kernel_rfl) ?_
        have hS : SX xb e x w3.drew := HX.out.drew.sx
        refine held_take 0 ?_ rfl (by kernel_rfl) (by kernel_rfl) (by kernel_rfl) (fun _ _ _ h => h) (Or.inl ⟨by kernel_rfl, ?_⟩) hS ?_
        rotate_left 1
        · intro u hu; obtain ⟨hu1, hu2⟩ := hu; go_simp; first | done | with_reducible rfl
        try simp only [Act.put, List.getElem_toArray, List.getElem_cons_succ, List.getElem_cons_zero, List.setIfInBounds_toArray, List.set_cons_succ, List.set_cons_zero]
        refine held_take 1 ?_ rfl (by kernel_rfl) (by kernel_rfl) (by kernel_rfl) (fun _ _ _ h => h) (Or.inl ⟨by kernel_rfl, ?_⟩) hS ?_
        rotate_left 1
        · intro u hu; obtain ⟨hu1, hu2⟩ := hu; go_simp; first | done | with_reducible rfl
        try simp only [Act.put, List.getElem_toArray, List.getElem_cons_succ, List.getElem_cons_zero, List.setIfInBounds_toArray, List.set_cons_succ, List.set_cons_zero]
        refine held_take 2 ?_ rfl (by kernel_rfl) (by kernel_rfl) (by kernel_rfl) (fun _ _ _ h => h) (Or.inl ⟨by kernel_rfl, ?_⟩) hS ?_
        rotate_left 1
        · intro u hu; obtain ⟨hu1, hu2⟩ := hu; go_simp; first | done | with_reducible rfl
        try simp only [Act.put, List.getElem_toArray, List.getElem_cons_succ, List.getElem_cons_zero, List.setIfInBounds_toArray, List.set_cons_succ, List.set_cons_zero]
        refine held_take 3 ?_ rfl (by kernel_rfl) (by kernel_rfl) (by kernel_rfl) (fun _ _ _ h => h) (Or.inl ⟨by kernel_rfl, ?_⟩) hS ?_
        rotate_left 1
        · intro u hu; obtain ⟨hu1, hu2⟩ := hu; go_simp; first | done | with_reducible rfl
        try simp only [Act.put, List.getElem_toArray, List.getElem_cons_succ, List.getElem_cons_zero, List.setIfInBounds_toArray, List.set_cons_succ, List.set_cons_zero]
        refine held_take 4 ?_ rfl (by kernel_rfl) (by kernel_rfl) (by kernel_rfl) (fun _ _ _ h => h) (Or.inl ⟨by kernel_rfl, ?_⟩) hS ?_
        rotate_left 1
        · intro u hu; obtain ⟨hu1, hu2⟩ := hu; go_simp; first | done | with_reducible rfl
        try simp only [Act.put, List.getElem_toArray, List.getElem_cons_succ, List.getElem_cons_zero, List.setIfInBounds_toArray, List.set_cons_succ, List.set_cons_zero]
        refine held_take 6 ?_ rfl (by kernel_rfl) (by kernel_rfl) (by kernel_rfl) (fun _ _ _ h => h) (Or.inl ⟨by kernel_rfl, ?_⟩) hS ?_
        rotate_left 1
        · intro u hu; obtain ⟨hu1, hu2⟩ := hu; go_simp; first | done | with_reducible rfl
        try simp only [Act.put, List.getElem_toArray, List.getElem_cons_succ, List.getElem_cons_zero, List.setIfInBounds_toArray, List.set_cons_succ, List.set_cons_zero]
        refine held_take 7 ?_ rfl (by kernel_rfl) (by kernel_rfl) (by kernel_rfl) (fun _ _ _ h => h) (Or.inl ⟨by kernel_rfl, ?_⟩) hS ?_
        rotate_left 1
        · intro u hu; obtain ⟨hu1, hu2⟩ := hu; go_simp; first | done | with_reducible rfl
        try simp only [Act.put, List.getElem_toArray, List.getElem_cons_succ, List.getElem_cons_zero, List.setIfInBounds_toArray, List.set_cons_succ, List.set_cons_zero]
        refine held_take 8 ?_ rfl (by kernel_rfl) (by kernel_rfl) (by kernel_rfl) (fun _ _ _ h => h) (Or.inl ⟨by kernel_rfl, ?_⟩) hS ?_
        rotate_left 1
        · intro u hu; obtain ⟨hu1, hu2⟩ := hu; go_simp; first | done | with_reducible rfl
        try simp only [Act.put, List.getElem_toArray, List.getElem_cons_succ, List.getElem_cons_zero, List.setIfInBounds_toArray, List.set_cons_succ, List.set_cons_zero]
        refine held_take 9 ?_ rfl (by kernel_rfl) (by kernel_rfl) (by kernel_rfl) (fun _ _ _ h => h) (Or.inl ⟨by kernel_rfl, ?_⟩) hS ?_
        rotate_left 1
        · intro u hu; obtain ⟨hu1, hu2⟩ := hu; go_simp; first | done | with_reducible rfl
        try simp only [Act.put, List.getElem_toArray, List.getElem_cons_succ, List.getElem_cons_zero, List.setIfInBounds_toArray, List.set_cons_succ, List.set_cons_zero]
        refine held_take 10 ?_ rfl (by kernel_rfl) (by kernel_rfl) (by kernel_rfl) (fun _ _ _ h => h) (Or.inl ⟨by kernel_rfl, ?_⟩) hS ?_
        rotate_left 1
        · intro u hu; obtain ⟨hu1, hu2⟩ := hu; go_simp; first | done | with_reducible rfl
        try simp only [Act.put, List.getElem_toArray, List.getElem_cons_succ, List.getElem_cons_zero, List.setIfInBounds_toArray, List.set_cons_succ, List.set_cons_zero]
        refine held_one 5 (by kernel_rfl) rfl (by kernel_rfl) (fun Ka hKa => ?_)
        go_simp
        refine (put_any HX.out.drew.tab HMK.out).mono ?_
        rintro r w4 ⟨rfl, h4, t4⟩
        have HX4 := Lib.hid (HX.out.drew.goA h4 t4 (fun k hk => .inl (putT_own HMK.out hk)))
        have hS4 := HX4.out.sx
        refine hKa _ _ hS4 ?_
        clear hKa Ka hS h4 t4 HX
        try simp only [Act.put, List.getElem_toArray, List.getElem_cons_succ, List.getElem_cons_zero, List.setIfInBounds_toArray, List.set_cons_succ, List.set_cons_zero]
        refine held_one 11 (by kernel_rfl) rfl (by kernel_rfl) (fun Kb hKb => ?_)
        go_simp
        obtain ⟨cur5, vs5, hR5, hd5, hx5⟩ := HX4.out.ref
        refine (refPut_any hR5 HMK.out).mono ?_
        rintro r w6 ⟨rfl, g6⟩
        have HY := Lib.hid (HX4.out.goB hR5 hd5 hx5 g6)
        have hS6 := HY.out.sx
        refine hKb _ _ hS6 ?_
        clear hKb Kb hR5 hd5 hx5 g6 cur5 vs5 HX4 hS4
        try simp only [Act.put, List.getElem_toArray, List.getElem_cons_succ, List.getElem_cons_zero, List.setIfInBounds_toArray, List.set_cons_succ, List.set_cons_zero]
        refine held_take 12 ?_ rfl (by kernel_rfl) (by kernel_rfl) (by kernel_rfl) (fun _ _ _ h => h) (Or.inl ⟨by kernel_rfl, ?_⟩) hS6 ?_
        rotate_left 1
        · intro u hu; obtain ⟨hu1, hu2⟩ := hu; go_simp; first | done | with_reducible rfl
        try simp only [Act.put, List.getElem_toArray, List.getElem_cons_succ, List.getElem_cons_zero, List.setIfInBounds_toArray, List.set_cons_succ, List.set_cons_zero]
        refine wpAnyH_done (by kernel_rfl) ?_ _
        have hz1 := HY.out.c1
        go_wp2_with fail
        refine (live_any HY.out.tab).mono ?_
        rintro r w' ⟨rfl, rfl⟩
        go_wp2_with fail
        obtain ⟨cur9, vs9, hR9, hd9⟩ := HY.out.ref
        refine (refLive_any hR9).mono ?_
        rintro r w' ⟨rfl, rfl⟩
        clear hd9 hR9 cur9 vs9
        go_wp2_with fail
        refine (alike_any HY.out.both e).mono ?_
        rintro r w8 ⟨rfl, t8⟩
        have HZ := Lib.hid (HY.out.both.idle t8)
        clear t8 hz1 HY
        go_wp2_with fail
        go_loopw [19] (fun i wq => ∃ j : Nat, i = .int .i64 ((j : Int) - 1) ∧ j ≤ 14 ∧ Both w.heap.size w wq tb sb rb rs n m cs' cs') (fun i _ => (14 - intOf i).toNat)
        case atStart => exact ⟨0, rfl, by omega, HZ.out⟩
        case round =>
          clear HZ
          obtain ⟨j, rfl, hj, hB⟩ := hrel
          have HQ := Lib.hid hB
          clear hB
          by_cases hjl : (j : Int) - 1 ≤ 2 * (n : Int) ∧ (j : Int) - 1 < 13
          · obtain ⟨hj1, hj2⟩ := hjl
            go_wp2_with fail
            refine (alike_any HQ.out ((j : Int) - 1)).mono ?_
            rintro r w9 ⟨rfl, t9⟩
            have HQ2 := Lib.hid (HQ.out.idle t9)
            clear t9
            go_wp2_with fail
            go_roundw
            case rel => exact ⟨j + 1, by go_num, by omega, HQ2.out⟩
            case measure => simp [intOf]; omega
          · have HJ := Lib.hid hjl
            clear hjl
            by_cases hj1 : (j : Int) - 1 ≤ 2 * (n : Int)
            · have hj2 : ¬ (j : Int) - 1 < 13 := fun h => HJ.out ⟨hj1, h⟩
              go_wp2_with fail
              go_roundw
              case rel => exact ⟨k + 1, by omega, by go_num, _, HQ.out⟩
              case measure => simp [intOf]; omega
            · go_wp2_with fail
              go_roundw
              case rel => exact ⟨k + 1, by omega, by go_num, _, HQ.out⟩
              case measure => simp [intOf]; omega
      · have hcx1 := HX.out.c1
        rw [← HW3.out, ← HXB.out] at hcx1
        go_wp2_with fail
        clear hcx1
        rw [HXB.out]
        rw [HW3.out]
        clear HXB HW3 HB
        obtain ⟨y, z, cs', hz⟩ : ∃ y z cs', takeT cs e = (y, z, cs') := ⟨_, _, _, rfl⟩
        refine (take_any HX.out.tab hz).mono ?_
        rintro r w4 ⟨rfl, h4, t4⟩
        have HX4 := Lib.hid (HX.out.goA h4 t4 (fun k hk => .inl (takeT_own hz hk)))
        have HMK := Lib.hid hz
        clear h4 t4 hz HX
        have hcx1 := HX4.out.c1
        go_wp2_with fail
        obtain ⟨cur5, vs5, hR5, hd5, hx5⟩ := HX4.out.ref
        refine (refTake_any hR5 HMK.out).mono ?_
        rintro r w6 ⟨rfl, g6⟩
        have HY := Lib.hid (HX4.out.goB hR5 hd5 hx5 g6)
        clear hR5 hd5 hx5 g6 cur5 vs5 HX4 hcx1
        have hz1 := HY.out.c1
        go_wp2_with fail
        refine (live_any HY.out.tab).mono ?_
        rintro r w' ⟨rfl, rfl⟩
        go_wp2_with fail
        obtain ⟨cur9, vs9, hR9, hd9⟩ := HY.out.ref
        refine (refLive_any hR9).mono ?_
        rintro r w' ⟨rfl, rfl⟩
        clear hd9 hR9 cur9 vs9
        go_wp2_with fail
        refine (alike_any HY.out.both e).mono ?_
        rintro r w8 ⟨rfl, t8⟩
        have HZ := Lib.hid (HY.out.both.idle t8)
        clear t8 hz1 HY
        go_wp2_with fail
        go_loopw [19] (fun i wq => ∃ j : Nat, i = .int .i64 ((j : Int) - 1) ∧ j ≤ 14 ∧ Both w.heap.size w wq tb sb rb rs n m cs' cs') (fun i _ => (14 - intOf i).toNat)
        case atStart => exact ⟨0, rfl, by omega, HZ.out⟩
        case round =>
          clear HZ
          obtain ⟨j, rfl, hj, hB⟩ := hrel
          have HQ := Lib.hid hB
          clear hB
          by_cases hjl : (j : Int) - 1 ≤ 2 * (n : Int) ∧ (j : Int) - 1 < 13
          · obtain ⟨hj1, hj2⟩ := hjl
            go_wp2_with fail
            refine (alike_any HQ.out ((j : Int) - 1)).mono ?_
            rintro r w9 ⟨rfl, t9⟩
            have HQ2 := Lib.hid (HQ.out.idle t9)
            clear t9
            go_wp2_with fail
            go_roundw
            case rel => exact ⟨j + 1, by go_num, by omega, HQ2.out⟩
            case measure => simp [intOf]; omega
          · have HJ := Lib.hid hjl
            clear hjl
            by_cases hj1 : (j : Int) - 1 ≤ 2 * (n : Int)
            · have hj2 : ¬ (j : Int) - 1 < 13 := fun h => HJ.out ⟨hj1, h⟩
              go_wp2_with fail
              go_roundw
              case rel => exact ⟨k + 1, by omega, by go_num, _, HQ.out⟩
              case measure => simp [intOf]; omega
            · go_wp2_with fail
              go_roundw
              case rel => exact ⟨k + 1, by omega, by go_num, _, HQ.out⟩
              case measure => simp [intOf]; omega
      · have hcx1 := HX.out.c1
        rw [← HW3.out, ← HXB.out] at hcx1
        go_wp2_with fail
        clear hcx1
        rw [HXB.out]
        rw [HW3.out]
        clear HXB HW3 HB
        obtain ⟨y, z, cs', hz⟩ : ∃ y z cs', takeT cs e = (y, z, cs') := ⟨_, _, _, rfl⟩
        refine (take_any HX.out.tab hz).mono ?_
        rintro r w4 ⟨rfl, h4, t4⟩
        have HX4 := Lib.hid (HX.out.goA h4 t4 (fun k hk => .inl (takeT_own hz hk)))
        have HMK := Lib.hid hz
        clear h4 t4 hz HX
        have hcx1 := HX4.out.c1
        go_wp2_with fail
        obtain ⟨cur5, vs5, hR5, hd5, hx5⟩ := HX4.out.ref
        refine (refTake_any hR5 HMK.out).mono ?_
        rintro r w6 ⟨rfl, g6⟩
        have HY := Lib.hid (HX4.out.goB hR5 hd5 hx5 g6)
        clear hR5 hd5 hx5 g6 cur5 vs5 HX4 hcx1
        have hz1 := HY.out.c1
        go_wp2_with fail
        refine (live_any HY.out.tab).mono ?_
        rintro r w' ⟨rfl, rfl⟩
        go_wp2_with fail
        obtain ⟨cur9, vs9, hR9, hd9⟩ := HY.out.ref
        refine (refLive_any hR9).mono ?_
        rintro r w' ⟨rfl, rfl⟩
        clear hd9 hR9 cur9 vs9
        go_wp2_with fail
        refine (alike_any HY.out.both e).mono ?_
        rintro r w8 ⟨rfl, t8⟩
        have HZ := Lib.hid (HY.out.both.idle t8)
        clear t8 hz1 HY
        go_wp2_with fail
        go_loopw [19] (fun i wq => ∃ j : Nat, i = .int .i64 ((j : Int) - 1) ∧ j ≤ 14 ∧ Both w.heap.size w wq tb sb rb rs n m cs' cs') (fun i _ => (14 - intOf i).toNat)
        case atStart => exact ⟨0, rfl, by omega, HZ.out⟩
        case round =>
          clear HZ
          obtain ⟨j, rfl, hj, hB⟩ := hrel
          have HQ := Lib.hid hB
          clear hB
          by_cases hjl : (j : Int) - 1 ≤ 2 * (n : Int) ∧ (j : Int) - 1 < 13
          · obtain ⟨hj1, hj2⟩ := hjl
            go_wp2_with fail
            refine (alike_any HQ.out ((j : Int) - 1)).mono ?_
            rintro r w9 ⟨rfl, t9⟩
            have HQ2 := Lib.hid (HQ.out.idle t9)
            clear t9
            go_wp2_with fail
            go_roundw
            case rel => exact ⟨j + 1, by go_num, by omega, HQ2.out⟩
            case measure => simp [intOf]; omega
          · have HJ := Lib.hid hjl
            clear hjl
            by_cases hj1 : (j : Int) - 1 ≤ 2 * (n : Int)
            · have hj2 : ¬ (j : Int) - 1 < 13 := fun h => HJ.out ⟨hj1, h⟩
              go_wp2_with fail
              go_roundw
              case rel => exact ⟨k + 1, by omega, by go_num, _, HQ.out⟩
              case measure => simp [intOf]; omega
            · go_wp2_with fail
              go_roundw
              case rel => exact ⟨k + 1, by omega, by go_num, _, HQ.out⟩
              case measure => simp [intOf]; omega
      · go_wp2_with fail
        rw [HXB.out]
        rw [HW3.out]
        clear HXB HW3 HB
        obtain ⟨z, cs', hz⟩ : ∃ z cs', closeT cs e = (z, cs') := ⟨_, _, rfl⟩
        have HMK := Lib.hid hz
        clear hz
        refine held_begin (SX xb e x) (by kernel_rfl) ?_
        have hS : SX xb e x w3.drew := HX.out.drew.sx
        refine held_take 0 ?_ rfl (by kernel_rfl) (by kernel_rfl) (by kernel_rfl) (fun _ _ _ h => h) (Or.inl ⟨by kernel_rfl, ?_⟩) hS ?_
        rotate_left 1
        · intro u hu; obtain ⟨hu1, hu2⟩ := hu; go_simp; first | done | with_reducible rfl
        try simp only [Act.put, List.getElem_toArray, List.getElem_cons_succ, List.getElem_cons_zero, List.setIfInBounds_toArray, List.set_cons_succ, List.set_cons_zero]
        refine held_take 1 ?_ rfl (by kernel_rfl) (by kernel_rfl) (by kernel_rfl) (fun _ _ _ h => h) (Or.inl ⟨by kernel_rfl, ?_⟩) hS ?_
        rotate_left 1
        · intro u hu; obtain ⟨hu1, hu2⟩ := hu; go_simp; first | done | with_reducible rfl
        try simp only [Act.put, List.getElem_toArray, List.getElem_cons_succ, List.getElem_cons_zero, List.setIfInBounds_toArray, List.set_cons_succ, List.set_cons_zero]
        refine held_take 2 ?_ rfl (by kernel_rfl) (by kernel_rfl) (by kernel_rfl) (fun _ _ _ h => h) (Or.inl ⟨by kernel_rfl, ?_⟩) hS ?_
        rotate_left 1
        · intro u hu; obtain ⟨hu1, hu2⟩ := hu; go_simp; first | done | with_reducible rfl
        try simp only [Act.put, List.getElem_toArray, List.getElem_cons_succ, List.getElem_cons_zero, List.setIfInBounds_toArray, List.set_cons_succ, List.set_cons_zero]
        refine held_take 4 ?_ rfl (by kernel_rfl) (by kernel_rfl) (by kernel_rfl) (fun _ _ _ h => h) (Or.inl ⟨by kernel_rfl, ?_⟩) hS ?_
        rotate_left 1
        · intro u hu; obtain ⟨hu1, hu2⟩ := hu; go_simp; first | done | with_reducible rfl
        try simp only [Act.put, List.getElem_toArray, List.getElem_cons_succ, List.getElem_cons_zero, List.setIfInBounds_toArray, List.set_cons_succ, List.set_cons_zero]
        refine held_take 5 ?_ rfl (by kernel_rfl) (by kernel_rfl) (by kernel_rfl) (fun _ _ _ h => h) (Or.inl ⟨by kernel_rfl, ?_⟩) hS ?_
        rotate_left 1
        · intro u hu; obtain ⟨hu1, hu2⟩ := hu; go_simp; first | done | with_reducible rfl
        try simp only [Act.put, List.getElem_toArray, List.getElem_cons_succ, List.getElem_cons_zero, List.setIfInBounds_toArray, List.set_cons_succ, List.set_cons_zero]
        refine held_take 6 ?_ rfl (by kernel_rfl) (by kernel_rfl) (by kernel_rfl) (fun _ _ _ h => h) (Or.inl ⟨by kernel_rfl, ?_⟩) hS ?_
        rotate_left 1
        · intro u hu; obtain ⟨hu1, hu2⟩ := hu; go_simp; first | done | with_reducible rfl
        try simp only [Act.put, List.getElem_toArray, List.getElem_cons_succ, List.getElem_cons_zero, List.setIfInBounds_toArray, List.set_cons_succ, List.set_cons_zero]
        refine held_one 3 (by kernel_rfl) rfl (by kernel_rfl) (fun Ka hKa => ?_)
        go_simp
        refine (close_any HX.out.drew.tab HMK.out).mono ?_
        rintro r w4 ⟨rfl, h4, t4⟩
        have HX4 := Lib.hid (HX.out.drew.goA h4 t4 (fun k hk => .inl (closeT_own HMK.out hk)))
        have hS4 := HX4.out.sx
        refine hKa _ _ hS4 ?_
        clear hKa Ka hS h4 t4 HX
        try simp only [Act.put, List.getElem_toArray, List.getElem_cons_succ, List.getElem_cons_zero, List.setIfInBounds_toArray, List.set_cons_succ, List.set_cons_zero]
        refine held_one 7 (by kernel_rfl) rfl (by kernel_rfl) (fun Kb hKb => ?_)
        go_simp
        obtain ⟨cur5, vs5, hR5, hd5, hx5⟩ := HX4.out.ref
        refine (refClose_any hR5 HMK.out).mono ?_
        rintro r w6 ⟨rfl, g6⟩
        have HY := Lib.hid (HX4.out.goB hR5 hd5 hx5 g6)
        have hS6 := HY.out.sx
        refine hKb _ _ hS6 ?_
        clear hKb Kb hR5 hd5 hx5 g6 cur5 vs5 HX4 hS4
        try simp only [Act.put, List.getElem_toArray, List.getElem_cons_succ, List.getElem_cons_zero, List.setIfInBounds_toArray, List.set_cons_succ, List.set_cons_zero]
        refine held_take 8 ?_ rfl (by kernel_rfl) (by kernel_rfl) (by kernel_rfl) (fun _ _ _ h => h) (Or.inl ⟨by kernel_rfl, ?_⟩) hS6 ?_
        rotate_left 1
        · intro u hu; obtain ⟨hu1, hu2⟩ := hu; go_simp; first | done | with_reducible rfl
        try simp only [Act.put, List.getElem_toArray, List.getElem_cons_succ, List.getElem_cons_zero, List.setIfInBounds_toArray, List.set_cons_succ, List.set_cons_zero]
        refine wpAnyH_done (by kernel_rfl) ?_ _
        have hz1 := HY.out.c1
        go_wp2_with fail
        refine (live_any HY.out.tab).mono ?_
        rintro r w' ⟨rfl, rfl⟩
        go_wp2_with fail
        obtain ⟨cur9, vs9, hR9, hd9⟩ := HY.out.ref
        refine (refLive_any hR9).mono ?_
        rintro r w' ⟨rfl, rfl⟩
        clear hd9 hR9 cur9 vs9
        go_wp2_with fail
        refine (alike_any HY.out.both e).mono ?_
        rintro r w8 ⟨rfl, t8⟩
        have HZ := Lib.hid (HY.out.both.idle t8)
        clear t8 hz1 HY
        go_wp2_with fail
        go_loopw [19] (fun i wq => ∃ j : Nat, i = .int .i64 ((j : Int) - 1) ∧ j ≤ 14 ∧ Both w.heap.size w wq tb sb rb rs n m cs' cs') (fun i _ => (14 - intOf i).toNat)
        case atStart => exact ⟨0, rfl, by omega, HZ.out⟩
        case round =>
          clear HZ
          obtain ⟨j, rfl, hj, hB⟩ := hrel
          have HQ := Lib.hid hB
          clear hB
          by_cases hjl : (j : Int) - 1 ≤ 2 * (n : Int) ∧ (j : Int) - 1 < 13
          · obtain ⟨hj1, hj2⟩ := hjl
            go_wp2_with fail
            refine (alike_any HQ.out ((j : Int) - 1)).mono ?_
            rintro r w9 ⟨rfl, t9⟩
            have HQ2 := Lib.hid (HQ.out.idle t9)
            clear t9
            go_wp2_with fail
            go_roundw
            case rel => exact ⟨j + 1, by go_num, by omega, HQ2.out⟩
            case measure => simp [intOf]; omega
          · have HJ := Lib.hid hjl
            clear hjl
            by_cases hj1 : (j : Int) - 1 ≤ 2 * (n : Int)
            · have hj2 : ¬ (j : Int) - 1 < 13 := fun h => HJ.out ⟨hj1, h⟩
              go_wp2_with fail
              go_roundw
              case rel => exact ⟨k + 1, by omega, by go_num, _, HQ.out⟩
              case measure => simp [intOf]; omega
            · go_wp2_with fail
              go_roundw
              case rel => exact ⟨k + 1, by omega, by go_num, _, HQ.out⟩
              case measure => simp [intOf]; omega
    · go_wp2_with fail
      all_goals
        refine (works21 wr).mono ?_
        rintro e w1 ⟨rfl, b1⟩
        go_wp2_with fail
        go_ret
        exact ⟨rfl, HB.out.below.trans (b1.mono HB.out.below.size)⟩
end Go.Proofs.Ytjnekmdocbmofaa
