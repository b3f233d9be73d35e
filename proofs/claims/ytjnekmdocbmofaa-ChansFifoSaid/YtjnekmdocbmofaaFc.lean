/- The theorem of channels: the law's walk. -/
import Derived.Test.YtjnekmdocbmofaaFb
import Derived.Test.YtjnekmdocbmofaaRl
import Derived.Deep.DeepCutAuto
import Derived.Deep.CutBlock
namespace Go.Proofs.Ytjnekmdocbmofaa
set_option linter.unusedSimpArgs false
set_option linter.unusedVariables false
open Go.RowKit Go.Shelf

def flip1 (h : Nat) : Nat := if h % 2 = 0 then h + 1 else h - 1
theorem flip_hd (i : Nat) (s : Bool) : flip1 (hd i s) = hd i (!s) := by
  unfold flip1 hd zOf; cases s <;> simp <;> omega
theorem bits_xor1 (h : Nat) (hh : h < 8) : bits BinOp.xor IntKind.i64 (h : Int) 1 = ((flip1 h : Nat) : Int) := by
  match h, hh with
  | 0, _ => rfl
  | 1, _ => rfl
  | 2, _ => rfl
  | 3, _ => rfl
  | 4, _ => rfl
  | 5, _ => rfl
  | 6, _ => rfl
  | 7, _ => rfl
theorem run_xor1 (h : Nat) (hh : h < 8) (w : World) : Sem.run Try.prog (binOp .xor 3 (.int .i64 (h : Int)) (.int .i64 1)) w = .ok (.int .i64 (flip1 h : Nat)) w := by
  match h, hh with
  | 0, _ => rfl
  | 1, _ => rfl
  | 2, _ => rfl
  | 3, _ => rfl
  | 4, _ => rfl
  | 5, _ => rfl
  | 6, _ => rfl
  | 7, _ => rfl

def nils8 : Array Value := #[.slice none 0 0, .slice none 0 0, .slice none 0 0, .slice none 0 0, .slice none 0 0, .slice none 0 0, .slice none 0 0, .slice none 0 0]

/-- The cells that a round of the last loop loads. -/
def SF (pb j : Nat) (v1 v2 : Value) (u : World) : Prop := u.cell? ⟨pb, j, none⟩ = some v1 ∧ u.cell? ⟨pb + 1, j, none⟩ = some v2
def SN (xb : Nat) (x : Int) (u : World) : Prop := u.cell? ⟨xb, 2, none⟩ = some (.int .i64 x)

theorem get_act {w : World} {xb : Nat} {a e x : Int} (h : w.heap[xb]? = some (.cells #[.int .u8 a, .int .i64 e, .int .i64 x] 57)) : w.cell? ⟨xb, 0, none⟩ = some (.int .u8 a) ∧ w.cell? ⟨xb, 2, none⟩ = some (.int .i64 x) :=
  ⟨by rw [cell_blk h]; rfl, by rw [cell_blk h]; rfl⟩

theorem FifoB.blk_ne {B : Nat} {w0 w : World} {tb sb pb n m K : Nat} {cs : List (Option Ch)} {vals : Nat → Value} {L : Nat → List Int} (h : FifoB B w0 w tb sb pb n m cs vals L K) {q xb : Nat} (hq : q < 16) (hx : w.heap.size ≤ xb) : ¬ blkOf (vals q) = some xb := fun hb => by
  have := ((h.sl q hq).1.blt hb).1; omega

theorem set_val {vals : Nat → Value} {L : Nat → List Int} {pb q : Nat} (hq : q < 8) : aB pb q = pb ∧ aO q = q := by simp [aB, aO, hq]
theorem set_val2 {pb q : Nat} : aB pb (8 + q) = pb + 1 ∧ aO (8 + q) = q := by simp [aB, aO, show ¬ 8 + q < 8 by omega]

theorem waitA_m {w tb sb n m cs} (h : TabIs w tb sb n m cs) (e : Int) : (waitA cs e).length ≤ m := by
  unfold waitA
  cases hs : sideOf cs e with
  | none => simp
  | some y =>
    obtain ⟨i, s, c⟩ := y
    have hS : Side w tb sb n m cs e i s c := ⟨h, hs⟩
    exact hS.le s

theorem SlI.turnN {w w' : World} {v : Value} {L : List Int} (h : SlI w v L) (t : Turn Nn w w') : SlI w' v L := by
  rcases h with h | ⟨b, of, c, h1, h2, h3⟩
  · exact .inl h
  · exact .inr ⟨b, of, c, h1, h2, fun i hi => Cell1.of (h3 i hi) Nn w' t (fun h => h)⟩

theorem reset_own {L : Nat → List Int} {i h g : Nat} {s : Bool} (e1 : h = hd i s) (e2 : hd i (!s) = g) (r : Bool) :
    (fun q => if q = 8 + g then [] else (fun q => if q = g then [] else (fun q => if q = 8 + h then [] else (fun q => if q = h then ([] : List Int) else L q) q) q) q) (hd i r) = [] ∧ (fun q => if q = 8 + g then [] else (fun q => if q = g then [] else (fun q => if q = 8 + h then [] else (fun q => if q = h then ([] : List Int) else L q) q) q) q) (8 + hd i r) = [] := by
  subst e1 e2
  by_cases hr : r = s
  · subst hr; simp
  · have : r = !s := by cases r <;> cases s <;> simp at hr ⊢
    subst this; simp

theorem reset_other {L : Nat → List Int} {i h g j n : Nat} {s : Bool} (e1 : h = hd i s) (e2 : hd i (!s) = g) (hne : j ≠ i) (hj : j < n) (hn : n ≤ 4) (hi : i < n) (r : Bool) :
    (fun q => if q = 8 + g then [] else (fun q => if q = g then [] else (fun q => if q = 8 + h then [] else (fun q => if q = h then ([] : List Int) else L q) q) q) q) (hd j r) = L (hd j r) ∧ (fun q => if q = 8 + g then [] else (fun q => if q = g then [] else (fun q => if q = 8 + h then [] else (fun q => if q = h then ([] : List Int) else L q) q) q) q) (8 + hd j r) = L (8 + hd j r) := by
  subst e1 e2
  have hlt : ∀ j r, j < n → hd j r < 8 := fun j r hj => by unfold hd zOf; split <;> omega
  have b1 := hlt j r hj
  have b2 := hlt i s hi
  have b3 := hlt i (!s) hi
  have n1 : hd j r ≠ hd i s := fun e => hne (hd_inj e).1
  have n2 : hd j r ≠ hd i (!s) := fun e => hne (hd_inj e).1
  have m1 : ¬ hd j r = 8 + hd i (!s) := by omega
  have m2 : ¬ hd j r = 8 + hd i s := by omega
  have m3 : ¬ 8 + hd j r = 8 + hd i (!s) := by omega
  have m4 : ¬ 8 + hd j r = hd i (!s) := by omega
  have m5 : ¬ 8 + hd j r = 8 + hd i s := by omega
  have m6 : ¬ 8 + hd j r = hd i s := by omega
  simp only [n1, n2, m1, m2, m3, m4, m5, m6, if_false, and_self]

set_option maxRecDepth 100000 in
set_option maxHeartbeats 40000000 in
theorem fifo21 (w : World) (s0 m0 : Int) (pa : Option Addr) (cap nb : Nat) (hs0 : 0 ≤ s0) (hs1 : s0 ≤ 255) (hm0 : 0 ≤ m0) (hm1 : m0 ≤ 255) (hv : ActI w pa nb) :
    Calls Try.prog 9 #[.int .u8 s0, .int .u8 m0, .slice pa nb cap] w fun e w' => e = .returned (.bool true) ∧ Below w.heap.size w w' := by
  obtain ⟨n, hn⟩ : ∃ n : Nat, 1 + s0 % 4 = (n : Int) := ⟨(1 + s0 % 4).toNat, by omega⟩
  obtain ⟨m, hm⟩ : ∃ m : Nat, 1 + m0 % 16 = (m : Int) := ⟨(1 + m0 % 16).toNat, by omega⟩
  have hn1 : 1 ≤ n := by omega
  have hn4 : n ≤ 4 := by omega
  have hmm1 : 1 ≤ m := by omega
  have hmm2 : m ≤ 16 := by omega
  have HA := Lib.hid hv
  have HN := Lib.hid hn
  have HM := Lib.hid hm
  clear hv hn hm
  go_enter Try.func9, Try.ntmps9
  go_wp2_with fail
  refine (works21 w).mono ?_
  rintro e w1 ⟨rfl, b1⟩
  go_wp2_with fail
  rw [HN.out, HM.out]
  refine (chNew_ok n m w1 hn1 (by omega) hmm1 hmm2).mono ?_
  rintro e w2 ⟨rfl, h2, t2⟩
  have b2 := below_turn_n b1 t2 (Nat.le_refl _)
  have hF := FifoB.new (v1 := nils8) (w0 := w) (B := w.heap.size) h2 b1.size rfl b2 rfl (fun q hq => by
    match q, hq with
    | 0, _ => rfl
    | 1, _ => rfl
    | 2, _ => rfl
    | 3, _ => rfl
    | 4, _ => rfl
    | 5, _ => rfl
    | 6, _ => rfl
    | 7, _ => rfl)
  obtain ⟨sb, hsb⟩ : ∃ sb, w1.heap.size = sb := ⟨_, rfl⟩
  obtain ⟨tb, htb⟩ : ∃ tb, w1.heap.size + 1 = tb := ⟨_, rfl⟩
  obtain ⟨pb, hpb⟩ : ∃ pb, w2.heap.size = pb := ⟨_, rfl⟩
  rw [htb, hsb, hpb] at hF
  rw [htb]
  have HF := Lib.hid hF
  have HPB := Lib.hid hpb
  unfold nils8 at HF
  clear h2 t2 b2 b1 hF hsb htb hpb
  go_wp2_with fail
  rw [HPB.out]
  clear HPB HN HM
  go_loopw [12] (fun i wr => ∃ k : Nat, k ≤ nb ∧ k ≤ 80 ∧ i = .int .i64 k ∧ ∃ cs vals L, FifoB w.heap.size w wr tb sb pb n m cs vals L k ∧ Eqs n cs L) (fun i _ => nb - (intOf i).toNat)
  case atStart => exact ⟨0, Nat.zero_le _, by omega, rfl, _, _, _, HF.out, Eqs.new n⟩
  case round =>
    clear HF
    obtain ⟨k, hk, hk80, rfl, cs, vals, L, hF, hE⟩ := hrel
    have HF := Lib.hid hF
    have HE := Lib.hid hE
    clear hF hE
    by_cases hlt : k < nb ∧ k < 80
    · obtain ⟨hlt1, hlt2⟩ := hlt
      have hlt3 : (k : Int) < (nb : Int) := by omega
      have hlt4 : (k : Int) < 80 := by omega
      obtain ⟨bb, bo, a, e, x, rfl, hbb, ha0, ha1, hac⟩ := HA.out.at hlt1
      obtain ⟨hc0, hc1, hc2⟩ := hac wr HF.out.below
      clear hac
      have hcase : a % 6 = 0 ∨ a % 6 = 1 ∨ a % 6 = 2 ∨ a % 6 = 3 ∨ a % 6 = 4 ∨ a % 6 = 5 := by omega
      obtain ⟨h, hh⟩ : ∃ h : Nat, a / 6 % (2 * (n : Int)) = (h : Int) := ⟨(a / 6 % (2 * (n : Int))).toNat, by have := Int.emod_nonneg (a / 6) (show 2 * (n : Int) ≠ 0 by omega); omega⟩
      have hhn : h < 2 * n := by have := Int.emod_lt_of_pos (a / 6) (show (0 : Int) < 2 * (n : Int) by omega); omega
      have hb0 : 0 ≤ a / 6 % (2 * (n : Int)) := by omega
      have hb1 : a / 6 % (2 * (n : Int)) ≤ 7 := by omega
      obtain ⟨i, s, his, hi⟩ : ∃ i s, h = hd i s ∧ i < n := ⟨h / 2, _, hd_split h, by omega⟩
      obtain ⟨g, hg⟩ : ∃ g, hd i (!s) = g := ⟨_, rfl⟩
      have hgn : g < 2 * n := by rw [← hg]; unfold hd zOf; split <;> omega
      have hx1 := bits_xor1 h (by omega)
      rw [show flip1 h = g by rw [his, flip_hd, hg]] at hx1
      have h8 : (h : Int) < 8 := by omega
      have g8 : (g : Int) < 8 := by omega
      have HH := Lib.hid hh
      have HI := Lib.hid his
      have HG := Lib.hid hg
      obtain ⟨w3, hw3⟩ : ∃ w3, wr.alloc (.cells #[.int .u8 a, .int .i64 e, .int .i64 x] 57) = w3 := ⟨_, rfl⟩
      obtain ⟨xb, hxb⟩ : ∃ xb, wr.heap.size = xb := ⟨_, rfl⟩
      have hF3 : FifoB w.heap.size w w3 tb sb pb n m cs vals L k := by rw [← hw3]; exact HF.out.idle ((Turn.refl Nn _).alloc _)
      have hX3 : w3.heap[xb]? = some (.cells #[.int .u8 a, .int .i64 e, .int .i64 x] 57) := by rw [← hw3, ← hxb]; exact World.alloc_heap_new wr _
      have hXT : ¬ TOwn sb cs xb := fun ht => by have := HF.out.tab.own_lt ht; omega
      have hXV : ∀ q, q < 16 → ¬ blkOf (vals q) = some xb := fun q hq => HF.out.blk_ne hq (by omega)
      have hXP : xb ≠ pb ∧ xb ≠ pb + 1 := by
        obtain ⟨_, q1, _⟩ := HF.out.put
        obtain ⟨_, q2, _⟩ := HF.out.tak
        have := heap_lt q1
        have := heap_lt q2
        omega
      have HF3 := Lib.hid hF3
      have HX3 := Lib.hid hX3
      have HXT := Lib.hid hXT
      have HXV := Lib.hid hXV
      have HXP := Lib.hid hXP
      have HW3 := Lib.hid hw3
      have HXB := Lib.hid hxb
      clear hF3 hX3 hXT hXV hXP hw3 hxb hh his hg
      go_wp2_with fail
      rw [HW3.out]
      rw [HXB.out]
      rw [HH.out]
      clear HXB HW3 hc0 hc1 hc2
      refine (live_any HF3.out.tab).mono ?_
      rintro r w' ⟨rfl, rfl⟩
      obtain ⟨lv, hlv⟩ : ∃ lv, liveA cs = lv := ⟨_, rfl⟩
      have hlvn : lv ≤ n := by rw [← hlv, ← HF3.out.tab.len]; exact liveA_le cs
      rw [hlv]
      have HLV := Lib.hid hlv
      have hxa := (get_act HX3.out).1
      clear hlv
      go_upto_block 2 with (fail)
      go_cut [12] (fun i wx => i = .int .i64 k ∧ ∃ cs9 vals9 L9, FifoB w.heap.size w wx tb sb pb n m cs9 vals9 L9 (k + 1) ∧ Eqs n cs9 L9)
      case first =>
        rcases hcase with h6 | h6 | h6 | h6 | h6 | h6
        · as_aux_lemma =>
            have q0 : (a % 6 == 0) = true := by rw [beq_iff_eq]; omega
            have q1 : (a % 6 == 1) = false := by rw [beq_eq_false_iff_ne]; omega
            have q2 : (a % 6 == 2) = false := by rw [beq_eq_false_iff_ne]; omega
            have q3 : (a % 6 == 3) = false := by rw [beq_eq_false_iff_ne]; omega
            have q4 : (a % 6 == 4) = false := by rw [beq_eq_false_iff_ne]; omega
            clear h6
            go_wp2_with fail
            obtain ⟨z0, z, cs', hz⟩ : ∃ i z cs', makeT cs w3.heap.size = (i, z, cs') := ⟨_, _, _, rfl⟩
            refine (make_any HF3.out.tab hz).mono ?_
            rintro r w4 ⟨rfl, h4, t4⟩
            have HF4 := Lib.hid (HF3.out.goT h4 t4 (fun k hk => makeT_own hz hk))
            clear h4 t4 hxa
            by_cases hfull : lv < n
            · obtain ⟨rfl, jj, rfl, hjj, hl4, ho0, ho1, hw0, hw1⟩ := makeT_yes hz (by rw [HLV.out, HF3.out.tab.len]; exact hfull)
              rw [HF3.out.tab.len] at hjj
              rw [hd_cast] at ho0 ho1
              simp only [Bool.false_eq_true, if_false, if_true, Int.add_zero] at ho0 ho1
              have hl5 : ((liveA cs' : Nat) : Int) = (lv : Int) + 1 := by rw [hl4, HLV.out]; omega
              have HL5 := Lib.hid hl5
              have HO0 := Lib.hid ho0
              have HO1 := Lib.hid ho1
              have HW0 := Lib.hid hw0
              have HW1 := Lib.hid hw1
              have hfi : (lv : Int) < (n : Int) := by omega
              have hji : (jj : Int) < (n : Int) := by omega
              clear hz hl4 hl5 ho0 ho1 hw0 hw1
              go_wp2_with fail
              refine (live_any HF4.out.tab).mono ?_
              rintro r w' ⟨rfl, rfl⟩
              rw [HL5.out]
              go_wp2_with fail
              refine (open_any HF4.out.tab (2 * (jj : Int))).mono ?_
              rintro r w5 ⟨rfl, t5⟩
              rw [HO0.out]
              have HF5 := Lib.hid (HF4.out.idle t5)
              clear t5
              go_wp2_with fail
              refine (open_any HF5.out.tab (2 * (jj : Int) + 1)).mono ?_
              rintro r w6 ⟨rfl, t6⟩
              rw [HO1.out]
              have HF6 := Lib.hid (HF5.out.idle t6)
              clear t6 HF5 HF4 HF3
              go_wp2_with fail
              obtain ⟨p0, hp0⟩ : ∃ p0 : Nat, 2 * jj = p0 := ⟨_, rfl⟩
              have hp1 : 2 * (jj : Int) = (p0 : Int) := by omega
              rw [hp1]
              have hp8 : (p0 : Int) + 1 < 8 := by omega
              have u1 := HF6.out.cellP (q := p0) (by omega)
              have u2 := HF6.out.cellT (q := p0) (by omega)
              have u3 := HF6.out.cellP (q := p0 + 1) (by omega)
              have u4 := HF6.out.cellT (q := p0 + 1) (by omega)
              have u5 := HF6.out.fzP
              have u6 := HF6.out.fzT
              have F7 := ((((HF6.out.nil (q := p0) (by omega)).nil (q := 8 + p0) (by omega)).nil (q := p0 + 1) (by omega)).nil (q := 8 + (p0 + 1)) (by omega)).mono (K' := k + 1) (by omega)
              rw [(set_val (vals := vals) (L := L) (pb := pb) (show p0 < 8 by omega)).1, (set_val (vals := vals) (L := L) (pb := pb) (show p0 < 8 by omega)).2, (set_val (vals := vals) (L := L) (pb := pb) (show p0 + 1 < 8 by omega)).1, (set_val (vals := vals) (L := L) (pb := pb) (show p0 + 1 < 8 by omega)).2, (set_val2 (pb := pb)).1, (set_val2 (pb := pb)).2, (set_val2 (pb := pb)).1, (set_val2 (pb := pb)).2] at F7
              have HF7 := Lib.hid F7
              have HP0 := Lib.hid hp0
              clear F7 hp0
              generalize vals p0 = y1 at u1
              generalize vals (8 + p0) = y2 at u2
              generalize vals (p0 + 1) = y3 at u3
              generalize vals (8 + (p0 + 1)) = y4 at u4
              refine wp_loop_rounds 3 ?_
              rw [rounds_succ]
              go_wp2_with fail
              rw [rounds_succ]
              go_wp2_with fail
              rw [rounds_succ]
              obtain ⟨cs9, vals9, L9, FB, EQ⟩ : ∃ cs9 vals9 L9, Hid (FifoB w.heap.size w _ tb sb pb n m cs9 vals9 L9 (k + 1)) ∧ Hid (Eqs n cs9 L9) := ⟨_, _, _, Lib.hid (HF7.out), Lib.hid (HE.out.reset hn4 hjj HW0.out HW1.out (fun r => reset_own (s := false) (show p0 = hd jj false by have := HP0.out; simp [hd, zOf]; omega) (show hd jj (!false) = p0 + 1 by have := HP0.out; simp [hd, zOf]; omega) r) (fun j r hj hne => reset_other (s := false) (show p0 = hd jj false by have := HP0.out; simp [hd, zOf]; omega) (show hd jj (!false) = p0 + 1 by have := HP0.out; simp [hd, zOf]; omega) hne hj hn4 hjj r))⟩
              clear HF7 HF6 u1 u2 u3 u4 u5 u6 HE HF
              go_wp2_with fail
              go_meet
              case rel => exact ⟨rfl, _, _, _, FB.out, EQ.out⟩
            · obtain ⟨hz0, rfl⟩ := makeT_no hz (by rw [HLV.out, HF3.out.tab.len]; exact hfull)
              have hz1 : (z == 0) = false := by rw [beq_eq_false_iff_ne]; exact hz0
              have hfi : (n : Int) ≤ (lv : Int) := by omega
              clear hz
              obtain ⟨cs9, vals9, L9, FB, EQ⟩ : ∃ cs9 vals9 L9, Hid (FifoB w.heap.size w _ tb sb pb n m cs9 vals9 L9 (k + 1)) ∧ Hid (Eqs n cs9 L9) := ⟨_, _, _, Lib.hid (HF4.out.mono (Nat.le_succ k)), Lib.hid (HE.out)⟩
              clear HF4 HF3 HE HF
              go_wp2_with fail
              go_meet
              case rel => exact ⟨rfl, _, _, _, FB.out, EQ.out⟩
        · as_aux_lemma =>
            have q0 : (a % 6 == 0) = false := by rw [beq_eq_false_iff_ne]; omega
            have q1 : (a % 6 == 1) = true := by rw [beq_iff_eq]; omega
            have q2 : (a % 6 == 2) = false := by rw [beq_eq_false_iff_ne]; omega
            have q3 : (a % 6 == 3) = false := by rw [beq_eq_false_iff_ne]; omega
            have q4 : (a % 6 == 4) = false := by rw [beq_eq_false_iff_ne]; omega
            clear h6
            go_wp2_with fail
            refine (canPut_any HF3.out.tab (h : Int)).mono ?_
            rintro r w4 ⟨rfl, t4⟩
            have HF4 := Lib.hid (HF3.out.idle t4)
            have HX4 := Lib.hid ((t4.block _ (heap_lt HX3.out) (fun h => h)).trans HX3.out)
            clear t4 hxa HF3 HX3
            obtain ⟨cp, hcp⟩ : ∃ cp, canPutA cs m (h : Int) = cp := ⟨_, rfl⟩
            rw [hcp]
            have hxn := (get_act HX4.out).2
            go_wp2_with fail
            clear hxn
            obtain ⟨z, cs', hz⟩ : ∃ z cs', putT cs m (h : Int) x = (z, cs') := ⟨_, _, rfl⟩
            refine (put_any HF4.out.tab hz).mono ?_
            rintro r w5 ⟨rfl, h5, t5⟩
            have HF5 := Lib.hid (HF4.out.goT h5 t5 (fun k hk => .inl (putT_own hz hk)))
            have HX5 := Lib.hid ((t5.block _ (heap_lt HX4.out) HXT.out).trans HX4.out)
            have hle := fun i s c (hs : sideOf cs (h : Int) = some (i, s, c)) => (Side.mk HF4.out.tab hs).le s
            clear h5 t5 HX4 HF4
            cases cp with
            | true =>
              rw [HI.out] at hz hcp
              obtain ⟨rfl, hw⟩ := putT_yes hz hcp
              have HEQ : Hid (Eqs n cs' (fun r => if r = h then L h ++ [x] else L r)) := Lib.hid (by rw [HI.out]; exact HE.out.put hn4 hi hw)
              clear hz hcp hw hle
              go_wp2_with fail
              obtain ⟨wd, hwd⟩ : ∃ wd, w5.drew = wd := ⟨_, rfl⟩
              have td : Turn Nn w5 wd := by rw [← hwd]; exact (Turn.refl _ _).drew
              obtain ⟨W0, hW0⟩ : ∃ W0, wd.alloc (.cells #[.int .i64 x] 2) = W0 := ⟨_, rfl⟩
              have t0 : Turn Nn wd W0 := by rw [← hW0]; exact (Turn.refl _ _).alloc _
              have FD := HF5.out.idle td
              have F0 := FD.idle t0
              have hXd : wd.heap[xb]? = _ := (td.block _ (heap_lt HX5.out) (fun h => h)).trans HX5.out
              have hX0 : W0.heap[xb]? = _ := (t0.block _ (heap_lt hXd) (fun h => h)).trans hXd
              have hB : W0.heap[wd.heap.size]? = some (.cells #[.int .i64 x] 2) := by rw [← hW0]; exact World.alloc_heap_new wd _
              obtain ⟨qs, ql⟩ := F0.sl h (by omega)
              obtain ⟨v', W', hrun, hsl2, hT, hb⟩ := append_run2 (x := x) qs (by omega) (by obtain ⟨_, q2, _⟩ := F0.tak; exact heap_lt q2) hB 35
              have F1 := F0.setv (q := h) (by omega) (K' := k + 1) (Nat.le_succ k) (w1 := W') (v' := v') (L' := L h ++ [x]) hT hsl2 (by rw [List.length_append]; simp; omega) (fun k hk => by
                rcases hb with hb | ⟨k2, hb, hge⟩
                · exact .inl (by rw [← hb]; exact hk)
                · rw [hb] at hk; cases hk; exact .inr hge)
              rw [(set_val (vals := vals) (L := L) (pb := pb) (show h < 8 by omega)).1, (set_val (vals := vals) (L := L) (pb := pb) (show h < 8 by omega)).2] at F1
              have hbp : ¬ blkOf (vals h) = some pb := fun hk => by have := (qs.blt hk).2; omega
              have hcd := FD.cellP (q := h) (by omega)
              have hc0 := F0.cellP (q := h) (by omega)
              have hc1 : W'.cell? ⟨pb, h, none⟩ = some (vals h) := (World.cell?_of_block (w := W0) (a := ⟨pb, h, none⟩) (hT.block pb (by obtain ⟨_, q2, _⟩ := F0.put; exact heap_lt q2) hbp)).trans hc0
              have hfz : W'.frozen? ⟨pb, h, none⟩ = false := by
                obtain ⟨_, q2, _⟩ := F0.put
                exact frozen_blk ((hT.block pb (heap_lt q2) hbp).trans q2) _
              have hXw : W'.heap[xb]? = _ := (hT.block xb (heap_lt hX0) (HXV.out h (by omega))).trans hX0
              have hXf : ∀ y, (W'.setCell ⟨pb, h, none⟩ y).heap[xb]? = _ := fun y => (Below.heap_setCell _ _ _ _ (by show xb ≠ pb; exact HXP.out.1)).trans hXw
              have HSD : Hid (SN xb x wd) := Lib.hid (get_act hXd).2
              have HSA : Hid (SN xb x W0) := Lib.hid (get_act hX0).2
              have HSW : Hid (SN xb x W') := Lib.hid (get_act hXw).2
              have HSF : Hid (∀ y, SN xb x (W'.setCell ⟨pb, h, none⟩ y)) := Lib.hid (fun y => (get_act (hXf y)).2)
              obtain ⟨pz, cz, ez⟩ := qs.shape
              obtain ⟨pz2, cz2, ez2⟩ := hsl2.shape
              rw [ez] at hcd hc0 hc1 hrun
              rw [ez2] at hrun F1
              obtain ⟨N1, hN1⟩ : ∃ N, (L h).length = N := ⟨_, rfl⟩
              obtain ⟨N2, hN2⟩ : ∃ N, (L h ++ [x]).length = N := ⟨_, rfl⟩
              rw [hN1] at hcd hc0 hc1 hrun
              rw [hN2] at hrun F1
              have HR := Lib.hid hrun
              have HC1 := Lib.hid hcd
              have HC2 := Lib.hid hc0
              have HD1 := Lib.hid hc1
              have HWD := Lib.hid hwd
              obtain ⟨cs9, vals9, L9, FB, EQ⟩ : ∃ cs9 vals9 L9, Hid (FifoB w.heap.size w _ tb sb pb n m cs9 vals9 L9 (k + 1)) ∧ Hid (Eqs n cs9 L9) := ⟨_, _, _, Lib.hid (F1), Lib.hid (HEQ.out)⟩
              rw [← hW0] at HR HSA HC2
              clear hwd td hW0 t0 FD F0 hXd hX0 hB qs ql hrun hsl2 hT hb F1 hbp hcd hc0 hc1 hXw hXf ez ez2 hN1 hN2 HF5 HX5 HEQ HE HF
              refine held_begin (SN xb x) (by kernel_rfl) ?_
              rw [HWD.out]
              refine held_take 0 ?_ rfl (by kernel_rfl) (by kernel_rfl) (by kernel_rfl) (fun _ _ _ h => h) (Or.inl ⟨by kernel_rfl, ?_⟩) HSD.out ?_
              rotate_left 1
              · intro u hu; have hu1 := hu; unfold SN at hu1; go_simp; first | done | with_reducible rfl
              try simp only [Act.put, List.getElem_toArray, List.getElem_cons_succ, List.getElem_cons_zero, List.setIfInBounds_toArray, List.set_cons_succ, List.set_cons_zero]
              refine held_take 1 ?_ rfl (by kernel_rfl) (by kernel_rfl) (by kernel_rfl) (fun _ _ _ h => h) (Or.inl ⟨by kernel_rfl, ?_⟩) HSD.out ?_
              rotate_left 1
              · intro u hu; have hu1 := hu; unfold SN at hu1; go_simp; first | done | with_reducible rfl
              try simp only [Act.put, List.getElem_toArray, List.getElem_cons_succ, List.getElem_cons_zero, List.setIfInBounds_toArray, List.set_cons_succ, List.set_cons_zero]
              refine held_take 2 ?_ rfl (by kernel_rfl) (by kernel_rfl) (by kernel_rfl) (fun _ _ _ h => h) (Or.inl ⟨by kernel_rfl, ?_⟩) HSD.out ?_
              rotate_left 1
              · intro u hu; have hu1 := hu; unfold SN at hu1; go_simp; first | done | with_reducible rfl
              try simp only [Act.put, List.getElem_toArray, List.getElem_cons_succ, List.getElem_cons_zero, List.setIfInBounds_toArray, List.set_cons_succ, List.set_cons_zero]
              refine held_take 4 ?_ rfl (by kernel_rfl) (by kernel_rfl) (by kernel_rfl) (fun _ _ _ h => h) (Or.inl ⟨by kernel_rfl, ?_⟩) HSD.out ?_
              rotate_left 1
              · intro u hu; have hu1 := hu; unfold SN at hu1; go_simp; first | done | with_reducible rfl
              try simp only [Act.put, List.getElem_toArray, List.getElem_cons_succ, List.getElem_cons_zero, List.setIfInBounds_toArray, List.set_cons_succ, List.set_cons_zero]
              refine held_take 5 ?_ rfl (by kernel_rfl) (by kernel_rfl) (by kernel_rfl) (fun _ _ _ h => h) (Or.inl ⟨by kernel_rfl, ?_⟩) HSD.out ?_
              rotate_left 1
              · intro u hu; have hu1 := hu; unfold SN at hu1; go_simp; first | done | with_reducible rfl
              try simp only [Act.put, List.getElem_toArray, List.getElem_cons_succ, List.getElem_cons_zero, List.setIfInBounds_toArray, List.set_cons_succ, List.set_cons_zero]
              refine held_pair 3 6 (by kernel_rfl) rfl rfl (by kernel_rfl) (by kernel_rfl) (fun Ka hKa => ?_) (fun Ka hKa => ?_)
              · have hcl := HC1.out
                go_simp
                refine hKa _ _ HSD.out ?_
                clear hKa Ka hcl
                try simp only [Act.put, List.getElem_toArray, List.getElem_cons_succ, List.getElem_cons_zero, List.setIfInBounds_toArray, List.set_cons_succ, List.set_cons_zero]
                refine held_one 6 (by kernel_rfl) rfl (by kernel_rfl) (fun Kd hKd => ?_)
                go_simp
                refine hKd _ _ HSA.out ?_
                clear hKd Kd
                try simp only [Act.put, List.getElem_toArray, List.getElem_cons_succ, List.getElem_cons_zero, List.setIfInBounds_toArray, List.set_cons_succ, List.set_cons_zero]
                refine held_one 7 (by kernel_rfl) rfl (by kernel_rfl) (fun Kb hKb => ?_)
                refine oper_append_eq _ _ 35 rfl _ _ rfl rfl HR.out ?_
                refine hKb _ _ HSW.out ?_
                clear hKb Kb
                try simp only [Act.put, List.getElem_toArray, List.getElem_cons_succ, List.getElem_cons_zero, List.setIfInBounds_toArray, List.set_cons_succ, List.set_cons_zero]
                refine held_take 8 ?_ rfl (by kernel_rfl) (by kernel_rfl) (by kernel_rfl) (fun _ _ _ h => h) (Or.inl ⟨by kernel_rfl, ?_⟩) HSW.out ?_
                rotate_left 1
                · intro u hu; have hu1 := hu; unfold SN at hu1; go_simp; first | done | with_reducible rfl
                try simp only [Act.put, List.getElem_toArray, List.getElem_cons_succ, List.getElem_cons_zero, List.setIfInBounds_toArray, List.set_cons_succ, List.set_cons_zero]
                refine held_one 9 (by kernel_rfl) rfl (by kernel_rfl) (fun Kc hKc => ?_)
                have hd2 := HD1.out
                go_simp
                refine hKc _ _ (HSF.out _) ?_
                clear hKc Kc hd2
                try simp only [Act.put, List.getElem_toArray, List.getElem_cons_succ, List.getElem_cons_zero, List.setIfInBounds_toArray, List.set_cons_succ, List.set_cons_zero]
                refine wpAnyH_done (by kernel_rfl) ?_ _
                clear HSD HSA HSW HSF HR HC1 HC2 HD1 HWD hfz
                go_wp2_with fail
                go_meet
                case rel => exact ⟨rfl, _, _, _, FB.out, EQ.out⟩
              · go_simp
                refine hKa _ _ HSA.out ?_
                clear hKa Ka
                try simp only [Act.put, List.getElem_toArray, List.getElem_cons_succ, List.getElem_cons_zero, List.setIfInBounds_toArray, List.set_cons_succ, List.set_cons_zero]
                refine held_one 3 (by kernel_rfl) rfl (by kernel_rfl) (fun Kd hKd => ?_)
                have hcl := HC2.out
                go_simp
                refine hKd _ _ HSA.out ?_
                clear hKd Kd hcl
                try simp only [Act.put, List.getElem_toArray, List.getElem_cons_succ, List.getElem_cons_zero, List.setIfInBounds_toArray, List.set_cons_succ, List.set_cons_zero]
                refine held_one 7 (by kernel_rfl) rfl (by kernel_rfl) (fun Kb hKb => ?_)
                refine oper_append_eq _ _ 35 rfl _ _ rfl rfl HR.out ?_
                refine hKb _ _ HSW.out ?_
                clear hKb Kb
                try simp only [Act.put, List.getElem_toArray, List.getElem_cons_succ, List.getElem_cons_zero, List.setIfInBounds_toArray, List.set_cons_succ, List.set_cons_zero]
                refine held_take 8 ?_ rfl (by kernel_rfl) (by kernel_rfl) (by kernel_rfl) (fun _ _ _ h => h) (Or.inl ⟨by kernel_rfl, ?_⟩) HSW.out ?_
                rotate_left 1
                · intro u hu; have hu1 := hu; unfold SN at hu1; go_simp; first | done | with_reducible rfl
                try simp only [Act.put, List.getElem_toArray, List.getElem_cons_succ, List.getElem_cons_zero, List.setIfInBounds_toArray, List.set_cons_succ, List.set_cons_zero]
                refine held_one 9 (by kernel_rfl) rfl (by kernel_rfl) (fun Kc hKc => ?_)
                have hd2 := HD1.out
                go_simp
                refine hKc _ _ (HSF.out _) ?_
                clear hKc Kc hd2
                try simp only [Act.put, List.getElem_toArray, List.getElem_cons_succ, List.getElem_cons_zero, List.setIfInBounds_toArray, List.set_cons_succ, List.set_cons_zero]
                refine wpAnyH_done (by kernel_rfl) ?_ _
                clear HSD HSA HSW HSF HR HC1 HC2 HD1 HWD hfz
                go_wp2_with fail
                go_meet
                case rel => exact ⟨rfl, _, _, _, FB.out, EQ.out⟩
            | false =>
              obtain ⟨hz0, rfl⟩ := putT_no hz hcp hle
              have hz1 : (z == 0) = false := by rw [beq_eq_false_iff_ne]; exact hz0
              clear hz hcp hle
              obtain ⟨cs9, vals9, L9, FB, EQ⟩ : ∃ cs9 vals9 L9, Hid (FifoB w.heap.size w _ tb sb pb n m cs9 vals9 L9 (k + 1)) ∧ Hid (Eqs n cs9 L9) := ⟨_, _, _, Lib.hid (HF5.out.mono (Nat.le_succ k)), Lib.hid (HE.out)⟩
              clear HF5 HE HF HX5
              go_wp2_with fail
              go_meet
              case rel => exact ⟨rfl, _, _, _, FB.out, EQ.out⟩
        · as_aux_lemma =>
            have q0 : (a % 6 == 0) = false := by rw [beq_eq_false_iff_ne]; omega
            have q1 : (a % 6 == 1) = false := by rw [beq_eq_false_iff_ne]; omega
            have q2 : (a % 6 == 2) = true := by rw [beq_iff_eq]; omega
            have q3 : (a % 6 == 3) = false := by rw [beq_eq_false_iff_ne]; omega
            have q4 : (a % 6 == 4) = false := by rw [beq_eq_false_iff_ne]; omega
            clear h6
            go_wp2_with fail
            refine (canPut_any HF3.out.tab (h : Int)).mono ?_
            rintro r w4 ⟨rfl, t4⟩
            have HF4 := Lib.hid (HF3.out.idle t4)
            have HX4 := Lib.hid ((t4.block _ (heap_lt HX3.out) (fun h => h)).trans HX3.out)
            clear t4 hxa HF3 HX3
            obtain ⟨cp, hcp⟩ : ∃ cp, canPutA cs m (h : Int) = cp := ⟨_, rfl⟩
            rw [hcp]
            have hxn := (get_act HX4.out).2
            go_wp2_with fail
            clear hxn
            obtain ⟨z, cs', hz⟩ : ∃ z cs', putT cs m (h : Int) x = (z, cs') := ⟨_, _, rfl⟩
            refine (put_any HF4.out.tab hz).mono ?_
            rintro r w5 ⟨rfl, h5, t5⟩
            have HF5 := Lib.hid (HF4.out.goT h5 t5 (fun k hk => .inl (putT_own hz hk)))
            have HX5 := Lib.hid ((t5.block _ (heap_lt HX4.out) HXT.out).trans HX4.out)
            have hle := fun i s c (hs : sideOf cs (h : Int) = some (i, s, c)) => (Side.mk HF4.out.tab hs).le s
            clear h5 t5 HX4 HF4
            cases cp with
            | true =>
              rw [HI.out] at hz hcp
              obtain ⟨rfl, hw⟩ := putT_yes hz hcp
              have HEQ : Hid (Eqs n cs' (fun r => if r = h then L h ++ [x] else L r)) := Lib.hid (by rw [HI.out]; exact HE.out.put hn4 hi hw)
              clear hz hcp hw hle
              go_wp2_with fail
              obtain ⟨wd, hwd⟩ : ∃ wd, w5.drew = wd := ⟨_, rfl⟩
              have td : Turn Nn w5 wd := by rw [← hwd]; exact (Turn.refl _ _).drew
              obtain ⟨W0, hW0⟩ : ∃ W0, wd.alloc (.cells #[.int .i64 x] 2) = W0 := ⟨_, rfl⟩
              have t0 : Turn Nn wd W0 := by rw [← hW0]; exact (Turn.refl _ _).alloc _
              have FD := HF5.out.idle td
              have F0 := FD.idle t0
              have hXd : wd.heap[xb]? = _ := (td.block _ (heap_lt HX5.out) (fun h => h)).trans HX5.out
              have hX0 : W0.heap[xb]? = _ := (t0.block _ (heap_lt hXd) (fun h => h)).trans hXd
              have hB : W0.heap[wd.heap.size]? = some (.cells #[.int .i64 x] 2) := by rw [← hW0]; exact World.alloc_heap_new wd _
              obtain ⟨qs, ql⟩ := F0.sl h (by omega)
              obtain ⟨v', W', hrun, hsl2, hT, hb⟩ := append_run2 (x := x) qs (by omega) (by obtain ⟨_, q2, _⟩ := F0.tak; exact heap_lt q2) hB 35
              have F1 := F0.setv (q := h) (by omega) (K' := k + 1) (Nat.le_succ k) (w1 := W') (v' := v') (L' := L h ++ [x]) hT hsl2 (by rw [List.length_append]; simp; omega) (fun k hk => by
                rcases hb with hb | ⟨k2, hb, hge⟩
                · exact .inl (by rw [← hb]; exact hk)
                · rw [hb] at hk; cases hk; exact .inr hge)
              rw [(set_val (vals := vals) (L := L) (pb := pb) (show h < 8 by omega)).1, (set_val (vals := vals) (L := L) (pb := pb) (show h < 8 by omega)).2] at F1
              have hbp : ¬ blkOf (vals h) = some pb := fun hk => by have := (qs.blt hk).2; omega
              have hcd := FD.cellP (q := h) (by omega)
              have hc0 := F0.cellP (q := h) (by omega)
              have hc1 : W'.cell? ⟨pb, h, none⟩ = some (vals h) := (World.cell?_of_block (w := W0) (a := ⟨pb, h, none⟩) (hT.block pb (by obtain ⟨_, q2, _⟩ := F0.put; exact heap_lt q2) hbp)).trans hc0
              have hfz : W'.frozen? ⟨pb, h, none⟩ = false := by
                obtain ⟨_, q2, _⟩ := F0.put
                exact frozen_blk ((hT.block pb (heap_lt q2) hbp).trans q2) _
              have hXw : W'.heap[xb]? = _ := (hT.block xb (heap_lt hX0) (HXV.out h (by omega))).trans hX0
              have hXf : ∀ y, (W'.setCell ⟨pb, h, none⟩ y).heap[xb]? = _ := fun y => (Below.heap_setCell _ _ _ _ (by show xb ≠ pb; exact HXP.out.1)).trans hXw
              have HSD : Hid (SN xb x wd) := Lib.hid (get_act hXd).2
              have HSA : Hid (SN xb x W0) := Lib.hid (get_act hX0).2
              have HSW : Hid (SN xb x W') := Lib.hid (get_act hXw).2
              have HSF : Hid (∀ y, SN xb x (W'.setCell ⟨pb, h, none⟩ y)) := Lib.hid (fun y => (get_act (hXf y)).2)
              obtain ⟨pz, cz, ez⟩ := qs.shape
              obtain ⟨pz2, cz2, ez2⟩ := hsl2.shape
              rw [ez] at hcd hc0 hc1 hrun
              rw [ez2] at hrun F1
              obtain ⟨N1, hN1⟩ : ∃ N, (L h).length = N := ⟨_, rfl⟩
              obtain ⟨N2, hN2⟩ : ∃ N, (L h ++ [x]).length = N := ⟨_, rfl⟩
              rw [hN1] at hcd hc0 hc1 hrun
              rw [hN2] at hrun F1
              have HR := Lib.hid hrun
              have HC1 := Lib.hid hcd
              have HC2 := Lib.hid hc0
              have HD1 := Lib.hid hc1
              have HWD := Lib.hid hwd
              obtain ⟨cs9, vals9, L9, FB, EQ⟩ : ∃ cs9 vals9 L9, Hid (FifoB w.heap.size w _ tb sb pb n m cs9 vals9 L9 (k + 1)) ∧ Hid (Eqs n cs9 L9) := ⟨_, _, _, Lib.hid (F1), Lib.hid (HEQ.out)⟩
              rw [← hW0] at HR HSA HC2
              clear hwd td hW0 t0 FD F0 hXd hX0 hB qs ql hrun hsl2 hT hb F1 hbp hcd hc0 hc1 hXw hXf ez ez2 hN1 hN2 HF5 HX5 HEQ HE HF
              refine held_begin (SN xb x) (by kernel_rfl) ?_
              rw [HWD.out]
              refine held_take 0 ?_ rfl (by kernel_rfl) (by kernel_rfl) (by kernel_rfl) (fun _ _ _ h => h) (Or.inl ⟨by kernel_rfl, ?_⟩) HSD.out ?_
              rotate_left 1
              · intro u hu; have hu1 := hu; unfold SN at hu1; go_simp; first | done | with_reducible rfl
              try simp only [Act.put, List.getElem_toArray, List.getElem_cons_succ, List.getElem_cons_zero, List.setIfInBounds_toArray, List.set_cons_succ, List.set_cons_zero]
              refine held_take 1 ?_ rfl (by kernel_rfl) (by kernel_rfl) (by kernel_rfl) (fun _ _ _ h => h) (Or.inl ⟨by kernel_rfl, ?_⟩) HSD.out ?_
              rotate_left 1
              · intro u hu; have hu1 := hu; unfold SN at hu1; go_simp; first | done | with_reducible rfl
              try simp only [Act.put, List.getElem_toArray, List.getElem_cons_succ, List.getElem_cons_zero, List.setIfInBounds_toArray, List.set_cons_succ, List.set_cons_zero]
              refine held_take 2 ?_ rfl (by kernel_rfl) (by kernel_rfl) (by kernel_rfl) (fun _ _ _ h => h) (Or.inl ⟨by kernel_rfl, ?_⟩) HSD.out ?_
              rotate_left 1
              · intro u hu; have hu1 := hu; unfold SN at hu1; go_simp; first | done | with_reducible rfl
              try simp only [Act.put, List.getElem_toArray, List.getElem_cons_succ, List.getElem_cons_zero, List.setIfInBounds_toArray, List.set_cons_succ, List.set_cons_zero]
              refine held_take 4 ?_ rfl (by kernel_rfl) (by kernel_rfl) (by kernel_rfl) (fun _ _ _ h => h) (Or.inl ⟨by kernel_rfl, ?_⟩) HSD.out ?_
              rotate_left 1
              · intro u hu; have hu1 := hu; unfold SN at hu1; go_simp; first | done | with_reducible rfl
              try simp only [Act.put, List.getElem_toArray, List.getElem_cons_succ, List.getElem_cons_zero, List.setIfInBounds_toArray, List.set_cons_succ, List.set_cons_zero]
              refine held_take 5 ?_ rfl (by kernel_rfl) (by kernel_rfl) (by kernel_rfl) (fun _ _ _ h => h) (Or.inl ⟨by kernel_rfl, ?_⟩) HSD.out ?_
              rotate_left 1
              · intro u hu; have hu1 := hu; unfold SN at hu1; go_simp; first | done | with_reducible rfl
              try simp only [Act.put, List.getElem_toArray, List.getElem_cons_succ, List.getElem_cons_zero, List.setIfInBounds_toArray, List.set_cons_succ, List.set_cons_zero]
              refine held_pair 3 6 (by kernel_rfl) rfl rfl (by kernel_rfl) (by kernel_rfl) (fun Ka hKa => ?_) (fun Ka hKa => ?_)
              · have hcl := HC1.out
                go_simp
                refine hKa _ _ HSD.out ?_
                clear hKa Ka hcl
                try simp only [Act.put, List.getElem_toArray, List.getElem_cons_succ, List.getElem_cons_zero, List.setIfInBounds_toArray, List.set_cons_succ, List.set_cons_zero]
                refine held_one 6 (by kernel_rfl) rfl (by kernel_rfl) (fun Kd hKd => ?_)
                go_simp
                refine hKd _ _ HSA.out ?_
                clear hKd Kd
                try simp only [Act.put, List.getElem_toArray, List.getElem_cons_succ, List.getElem_cons_zero, List.setIfInBounds_toArray, List.set_cons_succ, List.set_cons_zero]
                refine held_one 7 (by kernel_rfl) rfl (by kernel_rfl) (fun Kb hKb => ?_)
                refine oper_append_eq _ _ 35 rfl _ _ rfl rfl HR.out ?_
                refine hKb _ _ HSW.out ?_
                clear hKb Kb
                try simp only [Act.put, List.getElem_toArray, List.getElem_cons_succ, List.getElem_cons_zero, List.setIfInBounds_toArray, List.set_cons_succ, List.set_cons_zero]
                refine held_take 8 ?_ rfl (by kernel_rfl) (by kernel_rfl) (by kernel_rfl) (fun _ _ _ h => h) (Or.inl ⟨by kernel_rfl, ?_⟩) HSW.out ?_
                rotate_left 1
                · intro u hu; have hu1 := hu; unfold SN at hu1; go_simp; first | done | with_reducible rfl
                try simp only [Act.put, List.getElem_toArray, List.getElem_cons_succ, List.getElem_cons_zero, List.setIfInBounds_toArray, List.set_cons_succ, List.set_cons_zero]
                refine held_one 9 (by kernel_rfl) rfl (by kernel_rfl) (fun Kc hKc => ?_)
                have hd2 := HD1.out
                go_simp
                refine hKc _ _ (HSF.out _) ?_
                clear hKc Kc hd2
                try simp only [Act.put, List.getElem_toArray, List.getElem_cons_succ, List.getElem_cons_zero, List.setIfInBounds_toArray, List.set_cons_succ, List.set_cons_zero]
                refine wpAnyH_done (by kernel_rfl) ?_ _
                clear HSD HSA HSW HSF HR HC1 HC2 HD1 HWD hfz
                go_wp2_with fail
                go_meet
                case rel => exact ⟨rfl, _, _, _, FB.out, EQ.out⟩
              · go_simp
                refine hKa _ _ HSA.out ?_
                clear hKa Ka
                try simp only [Act.put, List.getElem_toArray, List.getElem_cons_succ, List.getElem_cons_zero, List.setIfInBounds_toArray, List.set_cons_succ, List.set_cons_zero]
                refine held_one 3 (by kernel_rfl) rfl (by kernel_rfl) (fun Kd hKd => ?_)
                have hcl := HC2.out
                go_simp
                refine hKd _ _ HSA.out ?_
                clear hKd Kd hcl
                try simp only [Act.put, List.getElem_toArray, List.getElem_cons_succ, List.getElem_cons_zero, List.setIfInBounds_toArray, List.set_cons_succ, List.set_cons_zero]
                refine held_one 7 (by kernel_rfl) rfl (by kernel_rfl) (fun Kb hKb => ?_)
                refine oper_append_eq _ _ 35 rfl _ _ rfl rfl HR.out ?_
                refine hKb _ _ HSW.out ?_
                clear hKb Kb
                try simp only [Act.put, List.getElem_toArray, List.getElem_cons_succ, List.getElem_cons_zero, List.setIfInBounds_toArray, List.set_cons_succ, List.set_cons_zero]
                refine held_take 8 ?_ rfl (by kernel_rfl) (by kernel_rfl) (by kernel_rfl) (fun _ _ _ h => h) (Or.inl ⟨by kernel_rfl, ?_⟩) HSW.out ?_
                rotate_left 1
                · intro u hu; have hu1 := hu; unfold SN at hu1; go_simp; first | done | with_reducible rfl
                try simp only [Act.put, List.getElem_toArray, List.getElem_cons_succ, List.getElem_cons_zero, List.setIfInBounds_toArray, List.set_cons_succ, List.set_cons_zero]
                refine held_one 9 (by kernel_rfl) rfl (by kernel_rfl) (fun Kc hKc => ?_)
                have hd2 := HD1.out
                go_simp
                refine hKc _ _ (HSF.out _) ?_
                clear hKc Kc hd2
                try simp only [Act.put, List.getElem_toArray, List.getElem_cons_succ, List.getElem_cons_zero, List.setIfInBounds_toArray, List.set_cons_succ, List.set_cons_zero]
                refine wpAnyH_done (by kernel_rfl) ?_ _
                clear HSD HSA HSW HSF HR HC1 HC2 HD1 HWD hfz
                go_wp2_with fail
                go_meet
                case rel => exact ⟨rfl, _, _, _, FB.out, EQ.out⟩
            | false =>
              obtain ⟨hz0, rfl⟩ := putT_no hz hcp hle
              have hz1 : (z == 0) = false := by rw [beq_eq_false_iff_ne]; exact hz0
              clear hz hcp hle
              obtain ⟨cs9, vals9, L9, FB, EQ⟩ : ∃ cs9 vals9 L9, Hid (FifoB w.heap.size w _ tb sb pb n m cs9 vals9 L9 (k + 1)) ∧ Hid (Eqs n cs9 L9) := ⟨_, _, _, Lib.hid (HF5.out.mono (Nat.le_succ k)), Lib.hid (HE.out)⟩
              clear HF5 HE HF HX5
              go_wp2_with fail
              go_meet
              case rel => exact ⟨rfl, _, _, _, FB.out, EQ.out⟩
        · as_aux_lemma =>
            have q0 : (a % 6 == 0) = false := by rw [beq_eq_false_iff_ne]; omega
            have q1 : (a % 6 == 1) = false := by rw [beq_eq_false_iff_ne]; omega
            have q2 : (a % 6 == 2) = false := by rw [beq_eq_false_iff_ne]; omega
            have q3 : (a % 6 == 3) = true := by rw [beq_iff_eq]; omega
            have q4 : (a % 6 == 4) = false := by rw [beq_eq_false_iff_ne]; omega
            clear h6
            go_wp2_with fail
            refine (canTake_any HF3.out.tab (h : Int)).mono ?_
            rintro r w4 ⟨rfl, t4⟩
            have HF4 := Lib.hid (HF3.out.idle t4)
            clear t4 hxa HF3 HX3
            obtain ⟨cp, hcp⟩ : ∃ cp, canTakeA cs (h : Int) = cp := ⟨_, rfl⟩
            rw [hcp]
            go_wp2_with fail
            obtain ⟨y, z, cs', hz⟩ : ∃ y z cs', takeT cs (h : Int) = (y, z, cs') := ⟨_, _, _, rfl⟩
            refine (take_any HF4.out.tab hz).mono ?_
            rintro r w5 ⟨rfl, h5, t5⟩
            have HF5 := Lib.hid (HF4.out.goT h5 t5 (fun k hk => .inl (takeT_own hz hk)))
            clear h5 t5 HF4
            cases cp with
            | true =>
              rw [HI.out] at hz hcp
              obtain ⟨rfl, hw, hw2⟩ := takeT_yes hz hcp
              have HEQ : Hid (Eqs n cs' (fun r => if r = 8 + g then L (8 + g) ++ [y] else L r)) := Lib.hid (by rw [← HG.out]; exact HE.out.take hn4 hi hw hw2)
              clear hz hcp hw hw2
              obtain ⟨W0, hW0⟩ : ∃ W0, w5.alloc (.cells #[.int .i64 y] 2) = W0 := ⟨_, rfl⟩
              have t0 : Turn Nn w5 W0 := by rw [← hW0]; exact (Turn.refl _ _).alloc _
              have F0 := HF5.out.idle t0
              have hB : W0.heap[w5.heap.size]? = some (.cells #[.int .i64 y] 2) := by rw [← hW0]; exact World.alloc_heap_new w5 _
              obtain ⟨qs, ql⟩ := F0.sl (8 + g) (by omega)
              obtain ⟨v', W', hrun, hsl2, hT, hb⟩ := append_run2 (x := y) qs (by omega) (by obtain ⟨_, q2, _⟩ := F0.tak; exact heap_lt q2) hB 35
              have F1 := F0.setv (q := 8 + g) (by omega) (K' := k + 1) (Nat.le_succ k) (w1 := W') (v' := v') (L' := L (8 + g) ++ [y]) hT hsl2 (by rw [List.length_append]; simp; omega) (fun k hk => by
                rcases hb with hb | ⟨k2, hb, hge⟩
                · exact .inl (by rw [← hb]; exact hk)
                · rw [hb] at hk; cases hk; exact .inr hge)
              rw [(set_val2 (pb := pb)).1, (set_val2 (pb := pb)).2] at F1
              have hbp : ¬ blkOf (vals (8 + g)) = some (pb + 1) := fun hk => by have := (qs.blt hk).2; omega
              have hcd := HF5.out.cellT (q := g) (by omega)
              have hc0 := F0.cellT (q := g) (by omega)
              have hc1 : W'.cell? ⟨pb + 1, g, none⟩ = some (vals (8 + g)) := (World.cell?_of_block (w := W0) (a := ⟨pb + 1, g, none⟩) (hT.block (pb + 1) (by obtain ⟨_, q2, _⟩ := F0.tak; exact heap_lt q2) hbp)).trans hc0
              have hfz : W'.frozen? ⟨pb + 1, g, none⟩ = false := by
                obtain ⟨_, q2, _⟩ := F0.tak
                exact frozen_blk ((hT.block (pb + 1) (heap_lt q2) hbp).trans q2) _
              obtain ⟨pz, cz, ez⟩ := qs.shape
              obtain ⟨pz2, cz2, ez2⟩ := hsl2.shape
              rw [ez] at hcd hc1 hrun
              rw [ez2] at hrun F1
              obtain ⟨N1, hN1⟩ : ∃ N, (L (8 + g)).length = N := ⟨_, rfl⟩
              obtain ⟨N2, hN2⟩ : ∃ N, (L (8 + g) ++ [y]).length = N := ⟨_, rfl⟩
              rw [hN1] at hcd hc1 hrun
              rw [hN2] at hrun F1
              have HR := Lib.hid hrun
              obtain ⟨cs9, vals9, L9, FB, EQ⟩ : ∃ cs9 vals9 L9, Hid (FifoB w.heap.size w _ tb sb pb n m cs9 vals9 L9 (k + 1)) ∧ Hid (Eqs n cs9 L9) := ⟨_, _, _, Lib.hid (F1), Lib.hid (HEQ.out)⟩
              rw [← hW0] at HR
              clear hW0 t0 F0 hB qs ql hrun hsl2 hT hb F1 hbp hc0 ez ez2 hN1 hN2 HF5 HEQ HE HF
              go_wp2_with (at_builtin; refine wpList_append_eq rfl _ _ 35 rfl _ _ rfl rfl HR.out ?_)
              clear hcd hc1 hfz HR
              go_wp2_with fail
              go_meet
              case rel => exact ⟨rfl, _, _, _, FB.out, EQ.out⟩
            | false =>
              obtain ⟨hz0, rfl, rfl⟩ := takeT_no hz hcp
              have hz1 : (z == 0) = false := by rw [beq_eq_false_iff_ne]; exact hz0
              clear hz hcp
              obtain ⟨cs9, vals9, L9, FB, EQ⟩ : ∃ cs9 vals9 L9, Hid (FifoB w.heap.size w _ tb sb pb n m cs9 vals9 L9 (k + 1)) ∧ Hid (Eqs n cs9 L9) := ⟨_, _, _, Lib.hid (HF5.out.mono (Nat.le_succ k)), Lib.hid (HE.out)⟩
              clear HF5 HE HF
              go_wp2_with fail
              go_meet
              case rel => exact ⟨rfl, _, _, _, FB.out, EQ.out⟩
        · as_aux_lemma =>
            have q0 : (a % 6 == 0) = false := by rw [beq_eq_false_iff_ne]; omega
            have q1 : (a % 6 == 1) = false := by rw [beq_eq_false_iff_ne]; omega
            have q2 : (a % 6 == 2) = false := by rw [beq_eq_false_iff_ne]; omega
            have q3 : (a % 6 == 3) = false := by rw [beq_eq_false_iff_ne]; omega
            have q4 : (a % 6 == 4) = true := by rw [beq_iff_eq]; omega
            clear h6
            go_wp2_with fail
            refine (canTake_any HF3.out.tab (h : Int)).mono ?_
            rintro r w4 ⟨rfl, t4⟩
            have HF4 := Lib.hid (HF3.out.idle t4)
            clear t4 hxa HF3 HX3
            obtain ⟨cp, hcp⟩ : ∃ cp, canTakeA cs (h : Int) = cp := ⟨_, rfl⟩
            rw [hcp]
            go_wp2_with fail
            obtain ⟨y, z, cs', hz⟩ : ∃ y z cs', takeT cs (h : Int) = (y, z, cs') := ⟨_, _, _, rfl⟩
            refine (take_any HF4.out.tab hz).mono ?_
            rintro r w5 ⟨rfl, h5, t5⟩
            have HF5 := Lib.hid (HF4.out.goT h5 t5 (fun k hk => .inl (takeT_own hz hk)))
            clear h5 t5 HF4
            cases cp with
            | true =>
              rw [HI.out] at hz hcp
              obtain ⟨rfl, hw, hw2⟩ := takeT_yes hz hcp
              have HEQ : Hid (Eqs n cs' (fun r => if r = 8 + g then L (8 + g) ++ [y] else L r)) := Lib.hid (by rw [← HG.out]; exact HE.out.take hn4 hi hw hw2)
              clear hz hcp hw hw2
              obtain ⟨W0, hW0⟩ : ∃ W0, w5.alloc (.cells #[.int .i64 y] 2) = W0 := ⟨_, rfl⟩
              have t0 : Turn Nn w5 W0 := by rw [← hW0]; exact (Turn.refl _ _).alloc _
              have F0 := HF5.out.idle t0
              have hB : W0.heap[w5.heap.size]? = some (.cells #[.int .i64 y] 2) := by rw [← hW0]; exact World.alloc_heap_new w5 _
              obtain ⟨qs, ql⟩ := F0.sl (8 + g) (by omega)
              obtain ⟨v', W', hrun, hsl2, hT, hb⟩ := append_run2 (x := y) qs (by omega) (by obtain ⟨_, q2, _⟩ := F0.tak; exact heap_lt q2) hB 35
              have F1 := F0.setv (q := 8 + g) (by omega) (K' := k + 1) (Nat.le_succ k) (w1 := W') (v' := v') (L' := L (8 + g) ++ [y]) hT hsl2 (by rw [List.length_append]; simp; omega) (fun k hk => by
                rcases hb with hb | ⟨k2, hb, hge⟩
                · exact .inl (by rw [← hb]; exact hk)
                · rw [hb] at hk; cases hk; exact .inr hge)
              rw [(set_val2 (pb := pb)).1, (set_val2 (pb := pb)).2] at F1
              have hbp : ¬ blkOf (vals (8 + g)) = some (pb + 1) := fun hk => by have := (qs.blt hk).2; omega
              have hcd := HF5.out.cellT (q := g) (by omega)
              have hc0 := F0.cellT (q := g) (by omega)
              have hc1 : W'.cell? ⟨pb + 1, g, none⟩ = some (vals (8 + g)) := (World.cell?_of_block (w := W0) (a := ⟨pb + 1, g, none⟩) (hT.block (pb + 1) (by obtain ⟨_, q2, _⟩ := F0.tak; exact heap_lt q2) hbp)).trans hc0
              have hfz : W'.frozen? ⟨pb + 1, g, none⟩ = false := by
                obtain ⟨_, q2, _⟩ := F0.tak
                exact frozen_blk ((hT.block (pb + 1) (heap_lt q2) hbp).trans q2) _
              obtain ⟨pz, cz, ez⟩ := qs.shape
              obtain ⟨pz2, cz2, ez2⟩ := hsl2.shape
              rw [ez] at hcd hc1 hrun
              rw [ez2] at hrun F1
              obtain ⟨N1, hN1⟩ : ∃ N, (L (8 + g)).length = N := ⟨_, rfl⟩
              obtain ⟨N2, hN2⟩ : ∃ N, (L (8 + g) ++ [y]).length = N := ⟨_, rfl⟩
              rw [hN1] at hcd hc1 hrun
              rw [hN2] at hrun F1
              have HR := Lib.hid hrun
              obtain ⟨cs9, vals9, L9, FB, EQ⟩ : ∃ cs9 vals9 L9, Hid (FifoB w.heap.size w _ tb sb pb n m cs9 vals9 L9 (k + 1)) ∧ Hid (Eqs n cs9 L9) := ⟨_, _, _, Lib.hid (F1), Lib.hid (HEQ.out)⟩
              rw [← hW0] at HR
              clear hW0 t0 F0 hB qs ql hrun hsl2 hT hb F1 hbp hc0 ez ez2 hN1 hN2 HF5 HEQ HE HF
              go_wp2_with (at_builtin; refine wpList_append_eq rfl _ _ 35 rfl _ _ rfl rfl HR.out ?_)
              clear hcd hc1 hfz HR
              go_wp2_with fail
              go_meet
              case rel => exact ⟨rfl, _, _, _, FB.out, EQ.out⟩
            | false =>
              obtain ⟨hz0, rfl, rfl⟩ := takeT_no hz hcp
              have hz1 : (z == 0) = false := by rw [beq_eq_false_iff_ne]; exact hz0
              clear hz hcp
              obtain ⟨cs9, vals9, L9, FB, EQ⟩ : ∃ cs9 vals9 L9, Hid (FifoB w.heap.size w _ tb sb pb n m cs9 vals9 L9 (k + 1)) ∧ Hid (Eqs n cs9 L9) := ⟨_, _, _, Lib.hid (HF5.out.mono (Nat.le_succ k)), Lib.hid (HE.out)⟩
              clear HF5 HE HF
              go_wp2_with fail
              go_meet
              case rel => exact ⟨rfl, _, _, _, FB.out, EQ.out⟩
        · as_aux_lemma =>
            have q0 : (a % 6 == 0) = false := by rw [beq_eq_false_iff_ne]; omega
            have q1 : (a % 6 == 1) = false := by rw [beq_eq_false_iff_ne]; omega
            have q2 : (a % 6 == 2) = false := by rw [beq_eq_false_iff_ne]; omega
            have q3 : (a % 6 == 3) = false := by rw [beq_eq_false_iff_ne]; omega
            have q4 : (a % 6 == 4) = false := by rw [beq_eq_false_iff_ne]; omega
            clear h6
            go_wp2_with fail
            refine (open_any HF3.out.tab (h : Int)).mono ?_
            rintro r w4 ⟨rfl, t4⟩
            have HF4 := Lib.hid (HF3.out.idle t4)
            clear t4 hxa HF3 HX3
            obtain ⟨o1, ho1⟩ : ∃ o, openA cs (h : Int) = o := ⟨_, rfl⟩
            rw [ho1]
            go_wp2_with fail
            skip
            refine (open_any HF4.out.tab (g : Int)).mono ?_
            rintro r w5 ⟨rfl, t5⟩
            have HF5 := Lib.hid (HF4.out.idle t5)
            clear t5 HF4
            obtain ⟨o2, ho2⟩ : ∃ o, openA cs (g : Int) = o := ⟨_, rfl⟩
            rw [ho2]
            go_wp2_with fail
            skip
            obtain ⟨z, cs', hz⟩ : ∃ z cs', closeT cs (h : Int) = (z, cs') := ⟨_, _, rfl⟩
            refine (close_any HF5.out.tab hz).mono ?_
            rintro r w6 ⟨rfl, h6', t6⟩
            have HF6 := Lib.hid (HF5.out.goT h6' t6 (fun k hk => .inl (closeT_own hz hk)))
            clear h6' t6
            cases o1 with
            | false =>
              obtain ⟨hz0, rfl⟩ := closeT_no hz ho1
              have hz1 : (z == 0) = false := by rw [beq_eq_false_iff_ne]; exact hz0
              have HO1 := Lib.hid ho1
              have HO2 := Lib.hid ho2
              clear hz ho1 ho2
              go_wp2_with fail
              skip
              refine (open_any HF6.out.tab (h : Int)).mono ?_
              rintro r w7 ⟨rfl, t7⟩
              have HF7 := Lib.hid (HF6.out.idle t7)
              rw [HO1.out]
              clear t7
              go_wp2_with fail
              skip
              refine (open_any HF7.out.tab (g : Int)).mono ?_
              rintro r w8 ⟨rfl, t8⟩
              have HF8 := Lib.hid (HF7.out.idle t8)
              rw [HO2.out]
              clear t8 HF7 HF6 HF5
              obtain ⟨cs9, vals9, L9, FB, EQ⟩ : ∃ cs9 vals9 L9, Hid (FifoB w.heap.size w _ tb sb pb n m cs9 vals9 L9 (k + 1)) ∧ Hid (Eqs n cs9 L9) := ⟨_, _, _, Lib.hid (HF8.out.mono (Nat.le_succ k)), Lib.hid (HE.out)⟩
              clear HF8 HE HF
              go_wp2_with fail
              go_meet
              case rel => exact ⟨rfl, _, _, _, FB.out, EQ.out⟩
            | true =>
              rw [HI.out] at hz ho1
              rw [← HG.out] at ho2
              cases o2 with
              | true =>
                obtain ⟨rfl, q1, q2, hw⟩ := closeT_half hz ho1 ho2
                rw [← HI.out] at q1
                rw [HG.out] at q2
                have HO1 := Lib.hid q1
                have HO2 := Lib.hid q2
                have HW := Lib.hid hw
                clear hz ho1 ho2 q1 q2 hw
                go_wp2_with fail
                skip
                refine (open_any HF6.out.tab (h : Int)).mono ?_
                rintro r w7 ⟨rfl, t7⟩
                have HF7 := Lib.hid (HF6.out.idle t7)
                rw [HO1.out]
                clear t7
                go_wp2_with fail
                skip
                refine (open_any HF7.out.tab (g : Int)).mono ?_
                rintro r w8 ⟨rfl, t8⟩
                have HF8 := Lib.hid (HF7.out.idle t8)
                rw [HO2.out]
                clear t8 HF7 HF6 HF5
                obtain ⟨cs9, vals9, L9, FB, EQ⟩ : ∃ cs9 vals9 L9, Hid (FifoB w.heap.size w _ tb sb pb n m cs9 vals9 L9 (k + 1)) ∧ Hid (Eqs n cs9 L9) := ⟨_, _, _, Lib.hid (HF8.out.mono (Nat.le_succ k)), Lib.hid (HE.out.same HW.out)⟩
                clear HF8 HE HF
                go_wp2_with fail
                go_meet
                case rel => exact ⟨rfl, _, _, _, FB.out, EQ.out⟩
              | false =>
                obtain ⟨rfl, q1, q2, hl, hw0, hw1⟩ := closeT_last hz ho1 ho2
                rw [← HI.out] at q1
                rw [HG.out] at q2
                have HO1 := Lib.hid q1
                have HO2 := Lib.hid q2
                have HW0 := Lib.hid hw0
                have HW1 := Lib.hid hw1
                have hl5 : ((liveA cs' : Nat) : Int) = (lv : Int) - 1 := by rw [← HLV.out]; omega
                have HL5 := Lib.hid hl5
                have hlv1 : 1 ≤ lv := by rw [← HLV.out]; omega
                clear hz ho1 ho2 q1 q2 hw0 hw1 hl hl5
                go_wp2_with fail
                skip
                refine (open_any HF6.out.tab (h : Int)).mono ?_
                rintro r w7 ⟨rfl, t7⟩
                have HF7 := Lib.hid (HF6.out.idle t7)
                rw [HO1.out]
                clear t7
                go_wp2_with fail
                skip
                refine (open_any HF7.out.tab (g : Int)).mono ?_
                rintro r w8 ⟨rfl, t8⟩
                have HF8 := Lib.hid (HF7.out.idle t8)
                rw [HO2.out]
                clear t8 HF7 HF6 HF5
                go_wp2_with fail
                refine (live_any HF8.out.tab).mono ?_
                rintro r w' ⟨rfl, rfl⟩
                rw [HL5.out]
                have u1 := HF8.out.cellP (q := h) (by omega)
                have u2 := HF8.out.cellT (q := h) (by omega)
                have u3 := HF8.out.cellP (q := g) (by omega)
                have u4 := HF8.out.cellT (q := g) (by omega)
                have u5 := HF8.out.fzP
                have u6 := HF8.out.fzT
                have hgh : g ≠ h := fun e => by have e1 := HI.out; have e2 := HG.out; have := hd_inj (e2.trans (e.trans e1)); cases s <;> simp at this
                have F9 := ((((HF8.out.nil (q := h) (by omega)).nil (q := 8 + h) (by omega)).nil (q := g) (by omega)).nil (q := 8 + g) (by omega)).mono (K' := k + 1) (by omega)
                rw [(set_val (vals := vals) (L := L) (pb := pb) (show h < 8 by omega)).1, (set_val (vals := vals) (L := L) (pb := pb) (show h < 8 by omega)).2, (set_val (vals := vals) (L := L) (pb := pb) (show g < 8 by omega)).1, (set_val (vals := vals) (L := L) (pb := pb) (show g < 8 by omega)).2, (set_val2 (pb := pb)).1, (set_val2 (pb := pb)).2, (set_val2 (pb := pb)).1, (set_val2 (pb := pb)).2] at F9
                generalize vals h = y1 at u1
                generalize vals (8 + h) = y2 at u2
                generalize vals g = y3 at u3
                generalize vals (8 + g) = y4 at u4
                obtain ⟨cs9, vals9, L9, FB, EQ⟩ : ∃ cs9 vals9 L9, Hid (FifoB w.heap.size w _ tb sb pb n m cs9 vals9 L9 (k + 1)) ∧ Hid (Eqs n cs9 L9) := ⟨_, _, _, Lib.hid (F9), Lib.hid (HE.out.reset hn4 hi HW0.out HW1.out (fun r => by have e1 := HI.out; have e2 := HG.out; exact reset_own e1 e2 r) (fun j r hj hne => by have e1 := HI.out; have e2 := HG.out; exact reset_other e1 e2 hne hj hn4 hi r))⟩
                clear F9 HF8 HE HF
                go_wp2_with fail
                go_meet
                case rel => exact ⟨rfl, _, _, _, FB.out, EQ.out⟩
      case rest =>
       as_aux_lemma =>
        clear hcase HE HF HF3 HX3 HXT HXV HXP HLV HH HI HG hxa
        obtain ⟨rfl, cs9, vals9, L9, FB, EQ⟩ := hcut
        have FB := Lib.hid FB
        have EQ := Lib.hid EQ
        go_wp2_with fail
        go_loopw [25] (fun i wq => ∃ j : Nat, i = .int .i64 j ∧ j ≤ 2 * n ∧ FifoB w.heap.size w wq tb sb pb n m cs9 vals9 L9 (k + 1)) (fun i _ => (8 - intOf i).toNat)
        case atStart => exact ⟨0, rfl, by omega, FB.out⟩
        case round =>
          clear FB
          obtain ⟨j, rfl, hj, hB⟩ := hrel
          have FB := Lib.hid hB
          clear hB
          by_cases hjl : j < 2 * n
          · have hj1 : (j : Int) < 2 * (n : Int) := by omega
            have hj8 : (j : Int) < 8 := by omega
            go_wp2_with fail
            refine (waiting_any FB.out.tab (j : Int)).mono ?_
            rintro r w5 ⟨⟨v5, nb5, rfl, n5, _⟩, t5⟩
            have FB2 := Lib.hid (FB.out.idle t5)
            have hwl := waitA_le FB.out.tab (j : Int)
            have hwm : (waitA cs9 (j : Int)).length ≤ m := waitA_m FB.out.tab (j : Int)
            have heq : L9 j = L9 (8 + j) ++ waitA cs9 (j : Int) := by
              rw [hd_split j, waitA_hd]; exact EQ.out _ _ (by omega)
            clear t5 FB
            obtain ⟨W5, hW5⟩ : ∃ W5, waitA cs9 (j : Int) = W5 := ⟨_, rfl⟩
            rw [hW5] at n5 hwl hwm heq
            clear hW5
            obtain ⟨q1, q1l⟩ := FB2.out.sl j (by omega)
            obtain ⟨q2, q2l⟩ := FB2.out.sl (8 + j) (by omega)
            have hcp := FB2.out.cellP (q := j) (by omega)
            have hct := FB2.out.cellT (q := j) (by omega)
            obtain ⟨a1, c1, e1⟩ := q1.shape
            obtain ⟨a2, c2, e2⟩ := q2.shape
            obtain ⟨a5, c5, e5, _⟩ := n5.sl.shape
            have s1 := q1.sl
            have s2 := q2.sl
            have s5 := n5.sl
            rw [e1] at hcp s1
            rw [e2] at hct s2
            rw [e5] at s5
            subst e5
            have hlen := congrArg List.length heq
            rw [List.length_append] at hlen
            obtain ⟨N1, hN1⟩ : ∃ N, (L9 j).length = N := ⟨_, rfl⟩
            obtain ⟨N2, hN2⟩ : ∃ N, (L9 (8 + j)).length = N := ⟨_, rfl⟩
            obtain ⟨N3, hN3⟩ : ∃ N, W5.length = N := ⟨_, rfl⟩
            rw [hN1] at hcp s1 hlen q1l
            rw [hN2] at hct s2 hlen q2l
            rw [hN3] at s5 hlen hwl hwm
            rw [hN3]
            have hM : decide (m < N3) = false := by rw [decide_eq_false_iff_not]; omega
            have hM2 : IntKind.i64.wrap (N1 : Int) = (N1 : Int) := by rw [IntKind.wrap_i64]; omega
            have hM3 : (N2 : Int) + (N3 : Int) = (N1 : Int) := by omega
            obtain ⟨wd, hwd⟩ : ∃ wd, w5.drew = wd := ⟨_, rfl⟩
            have td : Turn Nn w5 wd := by rw [← hwd]; exact (Turn.refl _ _).drew
            have hSF : SF pb j (.slice a1 N1 c1) (.slice a2 N2 c2) wd := by rw [← hwd]; exact ⟨hcp, hct⟩
            have hsf : ∀ wz, Turn Nn wd wz → SF pb j (.slice a1 N1 c1) (.slice a2 N2 c2) wz := fun wz tz => ⟨Cell1.of hSF.1 Nn wz tz (fun h => h), Cell1.of hSF.2 Nn wz tz (fun h => h)⟩
            have tA : Turn Nn wd (wd.alloc (.cells #[] 2)) := (Turn.refl _ _).alloc _
            have r2 : SlI (wd.alloc (.cells #[] 2)) (.slice a2 N2 c2) (L9 (8 + j)) := (s2.turnN td).turnN tA
            obtain ⟨v6, W6, hrun6, hown6, hgrow6, hblk6⟩ := append_words (W := wd.alloc (.cells #[] 2)) (B := wd.heap.size) (v := .slice (some ⟨wd.heap.size, 0, none⟩) 0 0) (X := []) (World.ownsRow_made (w := wd) (e := 2) (size := 1) #[] 0 (Nat.le_refl _) (Nat.zero_le _) rfl) r2 (by rw [hN2]; simp; omega) (by simp) 35
            have t6 : Turn Nn wd W6 := tA.fresh (Turn.grown (S := fun k => k = wd.heap.size) hgrow6 (fun k hk => by simp [Value.ownBlock] at hk; exact hk.symm)) (fun k hk => .inr (by omega))
            rw [List.nil_append] at hown6
            have hv6 : ∀ k, v6.ownBlock = some k → wd.heap.size ≤ k := fun k hk => (hown6.lt k hk).1
            obtain ⟨v7, W7, hrun7, hown7, hgrow7, _⟩ := append_words (W := W6) (B := wd.heap.size) (v := v6) (X := L9 (8 + j)) hown6 (s5.turnN td |>.turnN t6) (by rw [hN2, hN3]; omega) t6.size 35
            have t7 : Turn Nn wd W7 := t6.fresh (Turn.grown (S := fun k => wd.heap.size ≤ k) hgrow7 hv6) (fun k hk => .inr hk)
            have r7 := SlI.own hown7
            rw [← heq] at r7
            have r1 : SlI W7 (.slice a1 N1 c1) (L9 j) := (s1.turnN td).turnN t7
            have HR6 := Lib.hid hrun6
            have HR7 := Lib.hid hrun7
            have HSA := Lib.hid (hsf _ tA)
            have HS6 := Lib.hid (hsf _ t6)
            have HS7 := Lib.hid (hsf _ t7)
            have HSD := Lib.hid hSF
            have HL1 : Hid ((L9 j).length ≤ 1000000000) := Lib.hid (by rw [hN1]; omega)
            have HWD := Lib.hid hwd
            have FB3 := Lib.hid ((FB2.out.idle td).idle t7)
            have R1 := Lib.hid r1
            have R7 := Lib.hid r7
            have HSFF := Lib.hid hsf
            have T7 := Lib.hid t7
            clear hwd td hSF hsf tA r2 hrun6 hown6 hgrow6 hblk6 t6 hv6 hrun7 hown7 hgrow7 t7 r7 r1 s1 s2 s5 q1 q2 n5 hcp hct e1 e2 heq hlen hN1 hN2 hN3 hwl hwm FB2 q1l q2l
            go_wp2_with fail
            refine held_begin (SF pb j (.slice a1 N1 c1) (.slice a2 N2 c2)) (by kernel_rfl) ?_
            rw [HWD.out]
            refine held_take 0 ?_ rfl (by kernel_rfl) (by kernel_rfl) (by kernel_rfl) (fun _ _ _ h => h) (Or.inl ⟨by kernel_rfl, ?_⟩) HSD.out ?_
            rotate_left 1
            · intro u hu; obtain ⟨hu1, hu2⟩ := hu; go_simp; first | done | with_reducible rfl
            try simp only [Act.put, List.getElem_toArray, List.getElem_cons_succ, List.getElem_cons_zero, List.setIfInBounds_toArray, List.set_cons_succ, List.set_cons_zero]
            refine held_take 1 ?_ rfl (by kernel_rfl) (by kernel_rfl) (by kernel_rfl) (fun _ _ _ h => h) (Or.inl ⟨by kernel_rfl, ?_⟩) HSD.out ?_
            rotate_left 1
            · intro u hu; obtain ⟨hu1, hu2⟩ := hu; go_simp; first | done | with_reducible rfl
            try simp only [Act.put, List.getElem_toArray, List.getElem_cons_succ, List.getElem_cons_zero, List.setIfInBounds_toArray, List.set_cons_succ, List.set_cons_zero]
            refine held_take 2 ?_ rfl (by kernel_rfl) (by kernel_rfl) (by kernel_rfl) (fun _ _ _ h => h) (Or.inl ⟨by kernel_rfl, ?_⟩) HSD.out ?_
            rotate_left 1
            · intro u hu; obtain ⟨hu1, hu2⟩ := hu; go_simp; first | done | with_reducible rfl
            try simp only [Act.put, List.getElem_toArray, List.getElem_cons_succ, List.getElem_cons_zero, List.setIfInBounds_toArray, List.set_cons_succ, List.set_cons_zero]
            refine held_take 3 ?_ rfl (by kernel_rfl) (by kernel_rfl) (by kernel_rfl) (fun _ _ _ h => h) (Or.inl ⟨by kernel_rfl, ?_⟩) HSD.out ?_
            rotate_left 1
            · intro u hu; obtain ⟨hu1, hu2⟩ := hu; go_simp; first | done | with_reducible rfl
            try simp only [Act.put, List.getElem_toArray, List.getElem_cons_succ, List.getElem_cons_zero, List.setIfInBounds_toArray, List.set_cons_succ, List.set_cons_zero]
            refine held_take 4 ?_ rfl (by kernel_rfl) (by kernel_rfl) (by kernel_rfl) (fun _ _ _ h => h) (Or.inl ⟨by kernel_rfl, ?_⟩) HSD.out ?_
            rotate_left 1
            · intro u hu; obtain ⟨hu1, hu2⟩ := hu; go_simp; first | done | with_reducible rfl
            try simp only [Act.put, List.getElem_toArray, List.getElem_cons_succ, List.getElem_cons_zero, List.setIfInBounds_toArray, List.set_cons_succ, List.set_cons_zero]
            refine held_take 5 ?_ rfl (by kernel_rfl) (by kernel_rfl) (by kernel_rfl) (fun _ _ _ h => h) (Or.inl ⟨by kernel_rfl, ?_⟩) HSD.out ?_
            rotate_left 1
            · intro u hu; obtain ⟨hu1, hu2⟩ := hu; go_simp; first | done | with_reducible rfl
            try simp only [Act.put, List.getElem_toArray, List.getElem_cons_succ, List.getElem_cons_zero, List.setIfInBounds_toArray, List.set_cons_succ, List.set_cons_zero]
            refine held_take 6 ?_ rfl (by kernel_rfl) (by kernel_rfl) (by kernel_rfl) (fun _ _ _ h => h) (Or.inl ⟨by kernel_rfl, ?_⟩) HSD.out ?_
            rotate_left 1
            · intro u hu; obtain ⟨hu1, hu2⟩ := hu; go_simp; first | done | with_reducible rfl
            try simp only [Act.put, List.getElem_toArray, List.getElem_cons_succ, List.getElem_cons_zero, List.setIfInBounds_toArray, List.set_cons_succ, List.set_cons_zero]
            refine held_take 7 ?_ rfl (by kernel_rfl) (by kernel_rfl) (by kernel_rfl) (fun _ _ _ h => h) (Or.inl ⟨by kernel_rfl, ?_⟩) HSD.out ?_
            rotate_left 1
            · intro u hu; obtain ⟨hu1, hu2⟩ := hu; go_simp; first | done | with_reducible rfl
            try simp only [Act.put, List.getElem_toArray, List.getElem_cons_succ, List.getElem_cons_zero, List.setIfInBounds_toArray, List.set_cons_succ, List.set_cons_zero]
            refine held_take 8 ?_ rfl (by kernel_rfl) (by kernel_rfl) (by kernel_rfl) (fun _ _ _ h => h) (Or.inl ⟨by kernel_rfl, ?_⟩) HSD.out ?_
            rotate_left 1
            · intro u hu; obtain ⟨hu1, hu2⟩ := hu; go_simp; first | done | with_reducible rfl
            try simp only [Act.put, List.getElem_toArray, List.getElem_cons_succ, List.getElem_cons_zero, List.setIfInBounds_toArray, List.set_cons_succ, List.set_cons_zero]
            refine held_take 9 ?_ rfl (by kernel_rfl) (by kernel_rfl) (by kernel_rfl) (fun _ _ _ h => h) (Or.inl ⟨by kernel_rfl, ?_⟩) HSD.out ?_
            rotate_left 1
            · intro u hu; obtain ⟨hu1, hu2⟩ := hu; go_simp; first | done | with_reducible rfl
            try simp only [Act.put, List.getElem_toArray, List.getElem_cons_succ, List.getElem_cons_zero, List.setIfInBounds_toArray, List.set_cons_succ, List.set_cons_zero]
            refine held_take 10 ?_ rfl (by kernel_rfl) (by kernel_rfl) (by kernel_rfl) (fun _ _ _ h => h) (Or.inl ⟨by kernel_rfl, ?_⟩) HSD.out ?_
            rotate_left 1
            · intro u hu; obtain ⟨hu1, hu2⟩ := hu; go_simp; first | done | with_reducible rfl
            try simp only [Act.put, List.getElem_toArray, List.getElem_cons_succ, List.getElem_cons_zero, List.setIfInBounds_toArray, List.set_cons_succ, List.set_cons_zero]
            refine held_take 11 ?_ rfl (by kernel_rfl) (by kernel_rfl) (by kernel_rfl) (fun _ _ _ h => h) (Or.inl ⟨by kernel_rfl, ?_⟩) HSD.out ?_
            rotate_left 1
            · intro u hu; obtain ⟨hu1, hu2⟩ := hu; go_simp; first | done | with_reducible rfl
            try simp only [Act.put, List.getElem_toArray, List.getElem_cons_succ, List.getElem_cons_zero, List.setIfInBounds_toArray, List.set_cons_succ, List.set_cons_zero]
            refine held_take 12 ?_ rfl (by kernel_rfl) (by kernel_rfl) (by kernel_rfl) (fun _ _ _ h => h) (Or.inl ⟨by kernel_rfl, ?_⟩) HSD.out ?_
            rotate_left 1
            · intro u hu; obtain ⟨hu1, hu2⟩ := hu; go_simp; first | done | with_reducible rfl
            try simp only [Act.put, List.getElem_toArray, List.getElem_cons_succ, List.getElem_cons_zero, List.setIfInBounds_toArray, List.set_cons_succ, List.set_cons_zero]
            refine held_take 13 ?_ rfl (by kernel_rfl) (by kernel_rfl) (by kernel_rfl) (fun _ _ _ h => h) (Or.inl ⟨by kernel_rfl, ?_⟩) HSD.out ?_
            rotate_left 1
            · intro u hu; obtain ⟨hu1, hu2⟩ := hu; go_simp; first | done | with_reducible rfl
            try simp only [Act.put, List.getElem_toArray, List.getElem_cons_succ, List.getElem_cons_zero, List.setIfInBounds_toArray, List.set_cons_succ, List.set_cons_zero]
            refine held_take 14 ?_ rfl (by kernel_rfl) (by kernel_rfl) (by kernel_rfl) (fun _ _ _ h => h) (Or.inl ⟨by kernel_rfl, ?_⟩) HSD.out ?_
            rotate_left 1
            · intro u hu; obtain ⟨hu1, hu2⟩ := hu; go_simp; first | done | with_reducible rfl
            try simp only [Act.put, List.getElem_toArray, List.getElem_cons_succ, List.getElem_cons_zero, List.setIfInBounds_toArray, List.set_cons_succ, List.set_cons_zero]
            refine held_take 15 ?_ rfl (by kernel_rfl) (by kernel_rfl) (by kernel_rfl) (fun _ _ _ h => h) (Or.inl ⟨by kernel_rfl, ?_⟩) HSD.out ?_
            rotate_left 1
            · intro u hu; obtain ⟨hu1, hu2⟩ := hu; go_simp; first | done | with_reducible rfl
            try simp only [Act.put, List.getElem_toArray, List.getElem_cons_succ, List.getElem_cons_zero, List.setIfInBounds_toArray, List.set_cons_succ, List.set_cons_zero]
            refine held_take 16 ?_ rfl (by kernel_rfl) (by kernel_rfl) (by kernel_rfl) (fun _ _ _ h => h) (Or.inl ⟨by kernel_rfl, ?_⟩) HSD.out ?_
            rotate_left 1
            · intro u hu; obtain ⟨hu1, hu2⟩ := hu; go_simp; first | done | with_reducible rfl
            try simp only [Act.put, List.getElem_toArray, List.getElem_cons_succ, List.getElem_cons_zero, List.setIfInBounds_toArray, List.set_cons_succ, List.set_cons_zero]
            refine held_take 17 ?_ rfl (by kernel_rfl) (by kernel_rfl) (by kernel_rfl) (fun _ _ _ h => h) (Or.inl ⟨by kernel_rfl, ?_⟩) HSD.out ?_
            rotate_left 1
            · intro u hu; obtain ⟨hu1, hu2⟩ := hu; go_simp; first | done | with_reducible rfl
            try simp only [Act.put, List.getElem_toArray, List.getElem_cons_succ, List.getElem_cons_zero, List.setIfInBounds_toArray, List.set_cons_succ, List.set_cons_zero]
            refine held_take 18 ?_ rfl (by kernel_rfl) (by kernel_rfl) (by kernel_rfl) (fun _ _ _ h => h) (Or.inl ⟨by kernel_rfl, ?_⟩) HSD.out ?_
            rotate_left 1
            · intro u hu; obtain ⟨hu1, hu2⟩ := hu; go_simp; first | done | with_reducible rfl
            try simp only [Act.put, List.getElem_toArray, List.getElem_cons_succ, List.getElem_cons_zero, List.setIfInBounds_toArray, List.set_cons_succ, List.set_cons_zero]
            refine held_take 19 ?_ rfl (by kernel_rfl) (by kernel_rfl) (by kernel_rfl) (fun _ _ _ h => h) (Or.inl ⟨by kernel_rfl, ?_⟩) HSD.out ?_
            rotate_left 1
            · intro u hu; obtain ⟨hu1, hu2⟩ := hu; go_simp; first | done | with_reducible rfl
            try simp only [Act.put, List.getElem_toArray, List.getElem_cons_succ, List.getElem_cons_zero, List.setIfInBounds_toArray, List.set_cons_succ, List.set_cons_zero]
            refine held_take 20 ?_ rfl (by kernel_rfl) (by kernel_rfl) (by kernel_rfl) (fun _ _ _ h => h) (Or.inl ⟨by kernel_rfl, ?_⟩) HSD.out ?_
            rotate_left 1
            · intro u hu; obtain ⟨hu1, hu2⟩ := hu; go_simp; first | done | with_reducible rfl
            try simp only [Act.put, List.getElem_toArray, List.getElem_cons_succ, List.getElem_cons_zero, List.setIfInBounds_toArray, List.set_cons_succ, List.set_cons_zero]
            refine held_take 21 ?_ rfl (by kernel_rfl) (by kernel_rfl) (by kernel_rfl) (fun _ _ _ h => h) (Or.inl ⟨by kernel_rfl, ?_⟩) HSD.out ?_
            rotate_left 1
            · intro u hu; obtain ⟨hu1, hu2⟩ := hu; go_simp; first | done | with_reducible rfl
            try simp only [Act.put, List.getElem_toArray, List.getElem_cons_succ, List.getElem_cons_zero, List.setIfInBounds_toArray, List.set_cons_succ, List.set_cons_zero]
            refine held_take 23 ?_ rfl (by kernel_rfl) (by kernel_rfl) (by kernel_rfl) (fun _ _ _ h => h) (Or.inl ⟨by kernel_rfl, ?_⟩) HSD.out ?_
            rotate_left 1
            · intro u hu; obtain ⟨hu1, hu2⟩ := hu; go_simp; first | done | with_reducible rfl
            try simp only [Act.put, List.getElem_toArray, List.getElem_cons_succ, List.getElem_cons_zero, List.setIfInBounds_toArray, List.set_cons_succ, List.set_cons_zero]
            refine held_take 24 ?_ rfl (by kernel_rfl) (by kernel_rfl) (by kernel_rfl) (fun _ _ _ h => h) (Or.inl ⟨by kernel_rfl, ?_⟩) HSD.out ?_
            rotate_left 1
            · intro u hu; obtain ⟨hu1, hu2⟩ := hu; go_simp; first | done | with_reducible rfl
            try simp only [Act.put, List.getElem_toArray, List.getElem_cons_succ, List.getElem_cons_zero, List.setIfInBounds_toArray, List.set_cons_succ, List.set_cons_zero]
            refine held_take 25 ?_ rfl (by kernel_rfl) (by kernel_rfl) (by kernel_rfl) (fun _ _ _ h => h) (Or.inl ⟨by kernel_rfl, ?_⟩) HSD.out ?_
            rotate_left 1
            · intro u hu; obtain ⟨hu1, hu2⟩ := hu; go_simp; first | done | with_reducible rfl
            try simp only [Act.put, List.getElem_toArray, List.getElem_cons_succ, List.getElem_cons_zero, List.setIfInBounds_toArray, List.set_cons_succ, List.set_cons_zero]
            refine held_take 27 ?_ rfl (by kernel_rfl) (by kernel_rfl) (by kernel_rfl) (fun _ _ _ h => h) (Or.inl ⟨by kernel_rfl, ?_⟩) HSD.out ?_
            rotate_left 1
            · intro u hu; obtain ⟨hu1, hu2⟩ := hu; go_simp; first | done | with_reducible rfl
            try simp only [Act.put, List.getElem_toArray, List.getElem_cons_succ, List.getElem_cons_zero, List.setIfInBounds_toArray, List.set_cons_succ, List.set_cons_zero]
            refine held_one 22 (by kernel_rfl) rfl (by kernel_rfl) (fun Ka hKa => ?_)
            go_simp
            refine hKa _ _ HSA.out ?_
            clear hKa Ka
            try simp only [Act.put, List.getElem_toArray, List.getElem_cons_succ, List.getElem_cons_zero, List.setIfInBounds_toArray, List.set_cons_succ, List.set_cons_zero]
            refine held_one 26 (by kernel_rfl) rfl (by kernel_rfl) (fun Kb hKb => ?_)
            refine oper_append_eq _ _ 35 rfl _ _ rfl rfl HR6.out ?_
            refine hKb _ _ HS6.out ?_
            clear hKb Kb
            try simp only [Act.put, List.getElem_toArray, List.getElem_cons_succ, List.getElem_cons_zero, List.setIfInBounds_toArray, List.set_cons_succ, List.set_cons_zero]
            refine held_one 28 (by kernel_rfl) rfl (by kernel_rfl) (fun Kc hKc => ?_)
            refine oper_append_eq _ _ 35 rfl _ _ rfl rfl HR7.out ?_
            refine hKc _ _ HS7.out ?_
            clear hKc Kc
            try simp only [Act.put, List.getElem_toArray, List.getElem_cons_succ, List.getElem_cons_zero, List.setIfInBounds_toArray, List.set_cons_succ, List.set_cons_zero]
            refine held_one 29 (by kernel_rfl) rfl (by kernel_rfl) (fun Kd hKd => ?_)
            go_simp
            refine (words21_same R1.out R7.out HL1.out).mono ?_
            rintro r w' ⟨rfl, k8, rfl⟩
            have hS8 := HSFF.out _ (T7.out.drewN k8)
            refine hKd _ _ hS8 ?_
            clear hKd Kd
            try simp only [Act.put, List.getElem_toArray, List.getElem_cons_succ, List.getElem_cons_zero, List.setIfInBounds_toArray, List.set_cons_succ, List.set_cons_zero]
            refine held_take 30 ?_ rfl (by kernel_rfl) (by kernel_rfl) (by kernel_rfl) (fun _ _ _ h => h) (Or.inl ⟨by kernel_rfl, ?_⟩) hS8 ?_
            rotate_left 1
            · intro u hu; obtain ⟨hu1, hu2⟩ := hu; go_simp; first | done | with_reducible rfl
            try simp only [Act.put, List.getElem_toArray, List.getElem_cons_succ, List.getElem_cons_zero, List.setIfInBounds_toArray, List.set_cons_succ, List.set_cons_zero]
            refine held_take 31 ?_ rfl (by kernel_rfl) (by kernel_rfl) (by kernel_rfl) (fun _ _ _ h => h) (Or.inl ⟨by kernel_rfl, ?_⟩) hS8 ?_
            rotate_left 1
            · intro u hu; obtain ⟨hu1, hu2⟩ := hu; go_simp; first | done | with_reducible rfl
            try simp only [Act.put, List.getElem_toArray, List.getElem_cons_succ, List.getElem_cons_zero, List.setIfInBounds_toArray, List.set_cons_succ, List.set_cons_zero]
            have FB4 := Lib.hid (FB3.out.idle ((Turn.refl _ _).drewN k8))
            clear hS8 HSFF FB3 HSA HS6 HS7 HSD HR6 HR7
            refine wpAnyH_done (by kernel_rfl) ?_ _
            go_wp2_with fail
            go_roundw
            case rel => exact ⟨j + 1, by go_num, by omega, FB4.out⟩
            case measure => simp [intOf]; omega
          · go_wp2_with fail
            go_roundw
            case rel => exact ⟨k + 1, by omega, by omega, by go_num, _, _, _, FB.out, EQ.out⟩
            case measure => simp [intOf]; omega
    · go_wp2_with fail
      all_goals
        go_ret
        exact ⟨rfl, HF.out.below⟩
end Go.Proofs.Ytjnekmdocbmofaa
