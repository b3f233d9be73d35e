/- The reader's bytes. -/
import Derived.Test.YtjnllclpdllceaaGreatDoorSl
import Derived.IntWalk
import Derived.Laws.EntriesVeiled
namespace Go.Proofs.YtjnllclpdllceaaGreatDoor
set_option linter.unusedSimpArgs false
set_option linter.unusedVariables false
open Go.RowKit Go.Shelf

def halvesL : Bs := [48, 49, 50, 51, 52, 53, 54, 55, 56, 57, 97, 98, 99, 100, 101, 102]

def hInt (o : Option Nat) : Int := match o with | some n => (n : Int) | none => -1

theorem half_index (c : UInt8) : Lib.indexByte halvesL c = hInt (half c) := by
  have key : ∀ n : Fin 256, Lib.indexByte halvesL (UInt8.ofNat n.val) = hInt (half (UInt8.ofNat n.val)) := by decide +kernel
  have := key ⟨c.toNat, c.toNat_lt⟩
  simpa using this

theorem unhexL_append : ∀ (k : Nat) (x y : Bs), x.length = 2 * k → unhexL (x ++ y) = (unhexL x).bind fun a => (unhexL y).map (a ++ ·)
  | 0, x, y, h => by
    obtain rfl : x = [] := List.length_eq_zero_iff.1 (by omega)
    simp [unhexL]
  | k + 1, p :: q :: x, y, h => by
    have ih := unhexL_append k x y (by simp at h; omega)
    simp only [List.cons_append, unhexL]
    cases half p with
    | none => rfl
    | some a =>
      cases half q with
      | none => rfl
      | some b =>
        simp only [ih]
        cases unhexL x with
        | none => rfl
        | some M => cases unhexL y <;> rfl
  | k + 1, [], y, h => by simp at h
  | k + 1, [p], y, h => by simp at h; omega

theorem unhexL_step {d : Bs} {k : Nat} {M : Bs} (h : unhexL (d.take (2 * k)) = some M) (hk : 2 * k + 1 < d.length) {a b : Nat} (ha : half d[2 * k] = some a) (hb : half (d[2 * k + 1]) = some b) : unhexL (d.take (2 * (k + 1))) = some (M ++ [UInt8.ofNat (16 * a + b)]) := by
  have e : d.take (2 * (k + 1)) = d.take (2 * k) ++ [d[2 * k], d[2 * k + 1]] := by
    rw [show 2 * (k + 1) = 2 * k + 1 + 1 by omega, List.take_succ_eq_append_getElem hk, List.take_succ_eq_append_getElem (show 2 * k < d.length by omega), List.append_assoc]
    rfl
  rw [e, unhexL_append k _ _ (by simp; omega), h]
  simp [unhexL, ha, hb]

theorem unhexL_stop {d : Bs} {k : Nat} {M : Bs} (h : unhexL (d.take (2 * k)) = some M) (hk : 2 * k + 1 < d.length) (hn : half d[2 * k] = none ∨ half (d[2 * k + 1]) = none) : unhexL d = none := by
  have e : d = d.take (2 * k) ++ (d[2 * k] :: d[2 * k + 1] :: d.drop (2 * k + 2)) := by
    simp [List.take_append_drop]
  rw [e, unhexL_append k _ _ (by simp; omega), h]
  simp only [Option.bind_some, unhexL]
  rcases hn with hn | hn
  · rw [hn]; rfl
  · rw [hn]; cases half d[2 * k] <;> rfl

theorem bits_hex {a c : Nat} (ha : a < 16) (hc : c < 16) : bits BinOp.or IntKind.i64 ((a : Int) * 16) (c : Int) = ((UInt8.ofNat (16 * a + c)).toNat : Int) := by
  have key : ∀ a c : Fin 16, bits BinOp.or IntKind.i64 ((a.val : Int) * 16) (c.val : Int) = ((UInt8.ofNat (16 * a.val + c.val)).toNat : Int) := by decide +kernel
  exact key ⟨a, ha⟩ ⟨c, hc⟩

theorem BT_append (a b : Bs) : BT a ++ BT b = BT (a ++ b) := by
  unfold BT
  apply ByteArray.ext
  simp

theorem half_lt {c : UInt8} {n : Nat} (h : half c = some n) : n < 16 := (half_hx h).1

theorem bytes_form {s : ScriptD} {d : Bs} (hm : s.mod.length % 24 = 0) (hd : d.length ≠ 0) (hd2 : d.length % 2 ≠ 1) (hd3 : ¬ 48 < d.length) : (∀ M, unhexL d = some M → bytesS s [wBytes, d] = if 65536 < s.mod.length + M.length then .error 4 else .ok { s with mod := s.mod ++ M }) ∧ (unhexL d = none → bytesS s [wBytes, d] = .error 5) := by
  have hc : ¬ (s.mod.length % 24 ≠ 0 ∨ d.length = 0 ∨ d.length % 2 = 1 ∨ 48 < d.length) := by omega
  constructor
  · intro M h
    unfold bytesS
    simp only [if_neg hc, h]
  · intro h
    unfold bytesS
    simp only [if_neg hc, h]

set_option maxRecDepth 100000 in
set_option maxHeartbeats 4000000 in
theorem bytes_x {w0 w : World} {r : Nat} {s : ScriptD} {v : Value} {b o cap : Nat} {d : Bs} (h0 : Laid w0) (hb0 : Below w0.heap.size w0 w) (h : RAt w w0.heap.size r 1 s v) (c0 : w.cell? ⟨b, o, none⟩ = some (.string ⟨#[98, 121, 116, 101, 115]⟩)) (c1 : w.cell? ⟨b, o + 1, none⟩ = some (.string (BT d))) (hcap : 2 ≤ cap)
    (hmod : s.mod.length ≤ 65536) (hm : s.mod.length % 24 = 0) (hd : 1 ≤ d.length) (hd2 : d.length % 2 = 0) (hd3 : d.length ≤ 48) :
    Calls Tryz.prog 55 #[.pointer (some ⟨r, 0, none⟩), .slice (some ⟨b, o, none⟩) 2 cap] w (RPostV w w0.heap.size r 1 v (bytesS s [wBytes, d])) := by
  have k4 := (cell_blk (o := 4) h.blk)
  have f4 := frozen_blk (o := 4) h.blk
  simp only [rcells, List.getElem?_toArray, List.getElem?_cons_succ, List.getElem?_cons_zero] at k4
  obtain ⟨D, hD⟩ : ∃ D, BT d = D := ⟨_, rfl⟩
  obtain ⟨Mo, hMo⟩ : ∃ D, BT s.mod = D := ⟨_, rfl⟩
  have s1 : D.size = d.length := by rw [← hD]; rfl
  have s2 : Mo.size = s.mod.length := by rw [← hMo]; rfl
  rw [hD] at c1
  rw [hMo] at k4
  rw [← s2] at hm hmod
  rw [← s1] at hd hd2 hd3
  have g1 : (Mo.size : Int) % 24 = 0 := by omega
  have g2 : ((D.size : Int) == 0) = false := by rw [beq_eq_false_iff_ne]; omega
  have g3 : ((D.size : Int) % 2 == 1) = false := by rw [beq_eq_false_iff_ne]; omega
  have g4 : ¬ (48 : Int) < (D.size : Int) := by omega
  have HF : Hid ((∀ M, unhexL d = some M → bytesS s [wBytes, d] = if 65536 < s.mod.length + M.length then .error 4 else .ok { s with mod := s.mod ++ M }) ∧ (unhexL d = none → bytesS s [wBytes, d] = .error 5)) := Lib.hid (bytes_form (by omega) (by omega) (by omega) (by omega))
  obtain ⟨i0, hi, hz⟩ := Option.map_eq_some_iff.1 infoB
  simp only [Prod.mk.injEq] at hz
  obtain ⟨hz0, hz1, hz2⟩ := hz
  have HS1 := Lib.hid s1
  have HS2 := Lib.hid s2
  have HPAR := Lib.hid hd2
  have HR0 := Lib.hid h
  have HB0 := Lib.hid hb0
  have HL0 := Lib.hid h0
  clear s1 s2 hm hd2 h hb0 h0
  go_enter Tryz.func55, Tryz.ntmps55
  go_wp2_with fail
  go_loopw [5, 6, 7, 8] (fun bv i _ _ wr => ∃ (k : Nat) (M : Bs), 2 * k ≤ D.size ∧ i = .int .i64 (2 * (k : Int)) ∧ unhexL (d.take (2 * k)) = some M ∧ M.length = k ∧ wr.ownsRow w.heap.size 5 1 bv M.length (M.map fun c => .int .u8 c.toNat) ∧ Turn Nn w wr) (fun _ i _ _ _ => D.size - (intOf i).toNat)
  case atStart => exact ⟨0, [], by omega, rfl, rfl, rfl, World.ownsRow_nil w _ 5 1, Turn.refl _ _⟩
  case round =>
    obtain ⟨k, M, hk, rfl, hM, hMk, hown, ht⟩ := hrel
    have c1 := cell_turn ht c1
    by_cases hlt : 2 * k < D.size
    · have hlt2 : 2 * k + 1 < D.size := by have := HPAR.out; omega
      have z1 : (0 : Int) ≤ 2 * (k : Int) := by omega
      have z2 : 2 * (k : Int) < (D.size : Int) := by omega
      have z3 : 2 * (k : Int) + 1 < (D.size : Int) := by omega
      have z4 : IntKind.i64.wrap (2 * (k : Int) + 1) = 2 * (k : Int) + 1 := IntWalk.i64_in _ (by omega)
      have z5 : (2 * (k : Int) + 1).toNat = 2 * k + 1 := by omega
      have z6 : (2 * (k : Int)).toNat = 2 * k := by omega
      have z7 : (0 : Int) ≤ 2 * (k : Int) + 1 := by omega
      have hl1 : 2 * k < d.length := by have := HS1.out; omega
      have hl2 : 2 * k + 1 < d.length := by have := HS1.out; omega
      have q1 : D[2 * k] = d[2 * k] := by subst hD; rfl
      have q2 : D[2 * k + 1] = d[2 * k + 1] := by subst hD; rfl
      have x1 : Lib.indexByte [48, 49, 50, 51, 52, 53, 54, 55, 56, 57, 97, 98, 99, 100, 101, 102] D[2 * k] = hInt (half d[2 * k]) := by rw [q1]; exact half_index _
      have x2 : Lib.indexByte [48, 49, 50, 51, 52, 53, 54, 55, 56, 57, 97, 98, 99, 100, 101, 102] D[2 * k + 1] = hInt (half d[2 * k + 1]) := by rw [q2]; exact half_index _
      have HD := Lib.hid (Nat.le_of_eq HS1.out)
      cases h1 : half d[2 * k] with
      | none =>
        have HU := Lib.hid (unhexL_stop hM hl2 (.inl h1))
        rw [h1] at x1
        simp only [hInt] at x1
        have HT := Lib.hid ht
        obtain ⟨y, hy⟩ : ∃ y, hInt (half d[2 * k + 1]) = y := ⟨_, rfl⟩
        rw [hy] at x2
        clear q1 q2 hl1 hl2 h1 hM hMk hown ht hy
        go_wp2_with fail
        go_quiet ((go_at_call 57; exact Calls.quiet_of_same (Tryz.strings_IndexByte _ _ _)))
        go_wp2_with fail
        go_ret
        exact RPostV.err (HF.out.2 HU.out) (HT.out.drewN _).wide
      | some a =>
        have ha := half_lt h1
        have y0 : (0 : Int) ≤ (a : Int) := by omega
        cases h2 : half d[2 * k + 1] with
        | none =>
          have HU := Lib.hid (unhexL_stop hM hl2 (.inr h2))
          rw [h1] at x1
          rw [h2] at x2
          simp only [hInt] at x1 x2
          have HT := Lib.hid ht
          clear q1 q2 hl1 hl2 h1 h2 hM hMk hown ht
          go_wp2_with fail
          go_quiet ((go_at_call 57; exact Calls.quiet_of_same (Tryz.strings_IndexByte _ _ _)))
          go_wp2_with fail
          go_ret
          exact RPostV.err (HF.out.2 HU.out) (HT.out.drewN _).wide
        | some c =>
          have hc := half_lt h2
          rw [h1] at x1
          rw [h2] at x2
          simp only [hInt] at x1 x2
          have hst := unhexL_step hM hl2 h1 h2
          have hbx := bits_hex ha hc
          obtain ⟨u, hu⟩ : ∃ u, UInt8.ofNat (16 * a + c) = u := ⟨_, rfl⟩
          rw [hu] at hst hbx
          have hbm : (u.toNat : Int) % 256 = (u.toNat : Int) := by have := u.toNat_lt; omega
          have HST := Lib.hid hst
          have HT := Lib.hid ht
          have HMK := Lib.hid hMk
          have hown1 : (wr.drewN 0).ownsRow w.heap.size 5 1 u5 M.length (M.map fun c => .int .u8 c.toNat) := hown
          have y1 : (0 : Int) ≤ (c : Int) := by omega
          clear q1 q2 hl1 hl2 h1 h2 hst hM hMk hu
          go_wp2_with fail
          go_quiet ((go_at_call 57; exact Calls.quiet_of_same (Tryz.strings_IndexByte _ _ _)))
          generalize hw1 : World.drewN wr _ = w1
          have hown1 : w1.ownsRow w.heap.size 5 1 u5 M.length (M.map fun c => .int .u8 c.toNat) := by rw [← hw1]; exact ownsRow_turn hown ((Turn.refl Nn wr).drewN _)
          have HT1 : Hid (Turn Nn w w1) := Lib.hid (by rw [← hw1]; exact HT.out.drewN _)
          have hsz := HT1.out.size
          clear hw1 hown c1 ht
          go_wp2_with (at_builtin; refine wpList_append_own _ rfl _ _ 28 rfl w.heap.size 5 i0 (.int .u8 0) 1 1 Tryz.underlying28 hi hz0 hz1 hz2 rfl (by decide) _ _ _ rfl (hown1.alloc _) ⟨w1.heap.size, 0, none⟩ 1 1 [.int .u8 u.toNat] rfl rfl ?c1 ?c2 ?c3 ?c4 ?c5 ?_)
          case c1 =>
            intro j u hj
            match j, hj with
            | 0, hj => simp at hj; subst hj; simp [Addr.add]
          case c2 => intro u hu; simp at hu; subst hu; rfl
          case c3 => have := HMK.out; unfold maxLen; omega
          case c4 => have := HMK.out; omega
          case c5 => simp; omega
          intro v' w2 hown' hgrow _
          have HT2 := Lib.hid ((HT1.out.alloc _).grown hgrow (fun q hq => (hown1.lt q hq).1))
          have HO2 := Lib.hid hown'
          clear hown' hgrow hown1 hsz
          go_wp2_with fail
          go_roundw
          case rel =>
            refine ⟨k + 1, M ++ [u], by omega, by go_num, HST.out, by have := HMK.out; simp; omega, ?_, HT2.out⟩
            have := HO2.out
            rw [List.length_append, List.map_append]
            exact this
          case measure => simp [intOf]; omega
    · have hk2 : 2 * k = D.size := by omega
      have hge : ¬ (2 * (k : Int) < (D.size : Int)) := by omega
      have hml : M.length ≤ 1000000 := by omega
      have hU : unhexL d = some M := by rw [← hM, List.take_of_length_le (by have := HS1.out; omega)]
      have hMl : M.length = k := hMk
      have hRF := HF.out.1 M hU
      have hk4 := (cell_blk (o := 4) (show wr.heap[r]? = _ from (ht.block r (heap_lt HR0.out.blk) (fun h => h)).trans HR0.out.blk))
      simp only [rcells, List.getElem?_toArray, List.getElem?_cons_succ, List.getElem?_cons_zero] at hk4
      rw [hMo] at hk4
      rcases hown.2 with ⟨_, hz⟩ | ⟨g, capg, cur, rfl, hgB, hg, hnc, hcm, hsz, htk⟩
      · omega
      have hgc : ∀ i (hi : i < M.length), wr.cell? ⟨g, i, none⟩ = some (.int .u8 (M[i].toNat : Int)) := fun i hi => by
        have h9 := congrArg (fun l => l[i]?) htk
        simp only [List.getElem?_take, Nat.mul_one, hi, if_true, Array.getElem?_toList] at h9
        rw [cell_blk hg, h9]
        simp [hi]
      by_cases hlong : 65536 < s.mod.length + M.length
      · rw [if_pos hlong] at hRF
        have HRF := Lib.hid hRF
        have HT := Lib.hid ht
        have hgt : (65536 : Int) < (Mo.size : Int) + (M.length : Int) := by have := HS2.out; omega
        clear hU hRF hM hMk hown hg hgc htk hsz hk2 hlong ht hMl
        go_wp2_with fail
        go_ret
        exact RPostV.err HRF.out HT.out.wide
      · rw [if_neg hlong] at hRF
        have HRF := Lib.hid hRF
        have HT := Lib.hid ht
        have hgt : ¬ (65536 : Int) < (Mo.size : Int) + (M.length : Int) := by have := HS2.out; omega
        have hcv : ∀ n, (convert 28 9 (.slice (some ⟨g, 0, none⟩) M.length capg)).run Tryz.prog (wr.drewN n) = .ok (.string (BT M)) (wr.drewN n) := fun n =>
          run_convert_bytes_back (P := Tryz.prog) (wr.drewN n) 28 9 5 ⟨g, 0, none⟩ capg M Tryz.underlying28 Tryz.underlying5 Tryz.underlying9 (fun j hj => by
            have : (⟨g, 0, none⟩ : Addr).add j = ⟨g, j, none⟩ := by unfold Addr.add; split <;> simp_all
            rw [this]; exact hgc j hj)
        have hcv1 : (convert 28 9 (.slice (some ⟨g, 0, none⟩) M.length capg)).run Tryz.prog wr = .ok (.string (BT M)) wr := hcv 0
        have hcv2 : (convert 28 9 (.slice (some ⟨g, 0, none⟩) M.length capg)).run Tryz.prog wr.drew = .ok (.string (BT M)) wr.drew := hcv 1
        clear hU hRF hM hMk hg hgc htk hsz hk2 hlong ht hMl hcv
        have HOWN := Lib.hid hown
        clear hown
        have f4 := frozen_blk (o := 4) (show wr.heap[r]? = _ from (HT.out.block r (heap_lt HR0.out.blk) (fun h => h)).trans HR0.out.blk)
        have hadd : ∀ w, (Op.stringOp .add Mo (BT M)).run Tryz.prog w = .ok (.string (BT (s.mod ++ M))) w := fun w => by
          rw [add_run _ _ (by omega) (by rw [show (BT M).size = M.length from rfl]; omega), ← hMo, BT_append]
        have B1 := Lib.hid (show wr.heap[r]? = _ from (HT.out.block r (heap_lt HR0.out.blk) (fun h => h)).trans HR0.out.blk)
        obtain ⟨R, hR⟩ : ∃ R, BT (s.mod ++ M) = R := ⟨_, rfl⟩
        obtain ⟨MM, hMM⟩ : ∃ R, BT M = R := ⟨_, rfl⟩
        rw [hR, hMM] at hadd
        rw [hMM] at hcv1 hcv2
        clear hMM
        have HRE := Lib.hid hR
        clear hR
        go_wp2_with fail
        go_region
        go_wp2_with fail
        go_ret
        have T4 : Turn (At1 r) w (wr.setCell ⟨r, 4, none⟩ (.string R)).drew := ((Turn.wide (S := At1 r) HT.out).setCell (p := ⟨r, 4, none⟩) (.inl rfl) _).drew
        refine RPostV.good HRF.out ⟨?_, own_at1 HR0.out.own T4 HR0.out.apart, HR0.out.apart, HR0.out.low⟩ (.inl rfl) (T4.mono (fun _ h => .inl h))
        have e9 := heap_setCell_at B1.out 4 (.string R)
        rw [← HRE.out] at e9 ⊢
        exact e9

/-- Why a line of bytes may not be one. -/
def BBad (s : ScriptD) (n : Nat) (d : Bs) : Prop := n ≠ 2 ∨ s.mod.length % 24 ≠ 0 ∨ d.length = 0 ∨ d.length % 2 = 1 ∨ 48 < d.length

set_option maxRecDepth 100000 in
set_option maxHeartbeats 4000000 in
theorem bytes_bad {w0 w : World} {r : Nat} {s : ScriptD} {v : Value} {b o n cap : Nat} {d : Bs} (h : RAt w w0.heap.size r 1 s v) (c0 : w.cell? ⟨b, o, none⟩ = some (.string ⟨#[98, 121, 116, 101, 115]⟩)) (c1 : n = 2 → w.cell? ⟨b, o + 1, none⟩ = some (.string (BT d))) (hn : 1 ≤ n) (hcap : n ≤ cap)
    (hmod : s.mod.length ≤ 65536) (hdl : d.length ≤ 1000000) (hb : BBad s n d) :
    Calls Tryz.prog 55 #[.pointer (some ⟨r, 0, none⟩), .slice (some ⟨b, o, none⟩) n cap] w (RPostV w w0.heap.size r 1 v (.error 5)) := by
  have k4 := (cell_blk (o := 4) h.blk)
  simp only [rcells, List.getElem?_toArray, List.getElem?_cons_succ, List.getElem?_cons_zero] at k4
  obtain ⟨D, hD⟩ : ∃ D, BT d = D := ⟨_, rfl⟩
  obtain ⟨Mo, hMo⟩ : ∃ D, BT s.mod = D := ⟨_, rfl⟩
  have s1 : D.size = d.length := by rw [← hD]; rfl
  have s2 : Mo.size = s.mod.length := by rw [← hMo]; rfl
  rw [hD] at c1
  rw [hMo] at k4
  unfold BBad at hb
  rw [← s1, ← s2] at hb
  rw [← s1] at hdl
  rw [← s2] at hmod
  clear s1 s2 hD hMo h
  have hpos : (1 : Int) ≤ (n : Int) := by omega
  by_cases hn2 : n = 2
  · subst hn2
    have c1 := c1 rfl
    by_cases hm : Mo.size % 24 = 0
    · have g1 : (Mo.size : Int) % 24 = 0 := by omega
      by_cases h0 : D.size = 0
      · have g2 : ((D.size : Int) == 0) = true := by rw [beq_iff_eq]; omega
        have HH := Lib.hid h0
        clear hb hm h0
        go_enter Tryz.func55, Tryz.ntmps55
        go_wp2_with fail
        go_ret
        exact RPostV.err rfl (Turn.refl _ _)
      · have g2 : ((D.size : Int) == 0) = false := by rw [beq_eq_false_iff_ne]; omega
        by_cases h1 : D.size % 2 = 1
        · have g3 : ((D.size : Int) % 2 == 1) = true := by rw [beq_iff_eq]; omega
          have HH := Lib.hid h1
          clear hb hm h1 h0
          go_enter Tryz.func55, Tryz.ntmps55
          go_wp2_with fail
          go_ret
          exact RPostV.err rfl (Turn.refl _ _)
        · have g3 : ((D.size : Int) % 2 == 1) = false := by rw [beq_eq_false_iff_ne]; omega
          have g4 : (48 : Int) < (D.size : Int) := by omega
          clear hb hm h1 h0
          go_enter Tryz.func55, Tryz.ntmps55
          go_wp2_with fail
          go_ret
          exact RPostV.err rfl (Turn.refl _ _)
    · have g1 : ((Mo.size : Int) % 24 == 0) = false := by rw [beq_eq_false_iff_ne]; omega
      have g1b : ((Mo.size : Int) % 24 != 0) = true := by rw [bne_iff_ne]; omega
      clear hb hm
      go_enter Tryz.func55, Tryz.ntmps55
      go_wp2_with fail
      go_ret
      exact RPostV.err rfl (Turn.refl _ _)
  · have g1 : ((n : Int) == 2) = false := by rw [beq_eq_false_iff_ne]; omega
    have g1b : ((n : Int) != 2) = true := by rw [bne_iff_ne]; omega
    clear hb c1 hn2
    go_enter Tryz.func55, Tryz.ntmps55
    go_wp2_with fail
    go_ret
    exact RPostV.err rfl (Turn.refl _ _)

theorem RPostV.ends {w : World} {B r ph : Nat} {v : Value} {x : Except Int ScriptD} {e : Ending} {w' : World} (h : RPostV w B r ph v x e w') : ∃ z, e = .returned (.int .i64 z) := by
  cases x with
  | error c => exact ⟨c, h.1⟩
  | ok s => exact ⟨0, h.1.1⟩

theorem RPostV.later {w w1 : World} {B r ph : Nat} {v : Value} {x : Except Int ScriptD} {e : Ending} {w' : World} (h : RPostV w1 B r ph v x e w') (t : Turn (RS r v) w w1) : RPostV w B r ph v x e w' := by
  refine ⟨?_, t.trans h.2⟩
  cases x with
  | error c => exact h.1
  | ok s =>
    obtain ⟨h1, v', h2, h3⟩ := h.1
    exact ⟨h1, v', h2, h3.imp id (fun ⟨k, hk, hk2⟩ => ⟨k, hk, Nat.le_trans t.size hk2⟩)⟩

set_option maxRecDepth 100000 in
set_option maxHeartbeats 4000000 in
theorem bytes_turn {w0 w : World} {r : Nat} {s : ScriptD} {v : Value} {b o n cap : Nat} {k : Bs} {A : List Bs} (h0 : Laid w0) (hb0 : Below w0.heap.size w0 w) (h : RAt w w0.heap.size r 1 s v) (hst : s.turns.length ≤ 4096) (hc : ∀ i, i < n → w.cell? ⟨b, o + i, none⟩ = some (.string ⟨((k :: A)[i]?.getD []).toArray⟩)) (hbr : b ≠ r) (hn : n = A.length + 1) (hcap : n ≤ cap) (hk : k ≠ wBytes)
    (hL : A.length ≤ 800000) (hs : ∀ i, i < (k :: A).length → ((k :: A)[i]?.getD []).length ≤ 1000000) :
    Calls Tryz.prog 55 #[.pointer (some ⟨r, 0, none⟩), .slice (some ⟨b, o, none⟩) n cap] w (RPostV w w0.heap.size r 2 v (turnS s (k :: A))) := by
  have c0 : w.cell? ⟨b, o, none⟩ = some (.string ⟨k.toArray⟩) := hc 0 (by omega)
  have e1 : (k != [98, 121, 116, 101, 115]) = true := by rw [bne_iff_ne]; exact hk
  have e0 : (k == [98, 121, 116, 101, 115]) = false := by rw [beq_eq_false_iff_ne]; exact hk
  have T1 : Turn (At1 r) w (w.setCell ⟨r, 6, none⟩ (nextF 2 r)) := (Turn.refl (At1 r) w).setCell (p := ⟨r, 6, none⟩) (.inl rfl) _
  have t1 : ∀ i, (w.setCell ⟨r, 6, none⟩ (nextF 2 r)).cell? ⟨b, i, none⟩ = w.cell? ⟨b, i, none⟩ := fun i => World.cell?_of_block (T1.block b (World.block_lt_of_cell? w _ c0) hbr)
  have HC := Lib.hid (rturn_any (w := w.setCell ⟨r, 6, none⟩ (nextF 2 r)) (wv := .slice (some ⟨b, o, none⟩) n cap) (L := k :: A) h0 (T1.under hb0 (fun k hk => by cases hk; exact h.low) hb0.size) ⟨heap_setCell_at h.blk 6 (nextF 2 r), own_at1 h.own T1 h.apart, h.apart, h.low⟩ hst
    (.inr ⟨b, o, cap, by rw [hn]; rfl, by rw [List.length_cons]; omega, fun i hi => (t1 _).trans (hc i (by rw [List.length_cons] at hi; omega))⟩) (by simp) (by rw [List.length_cons]; omega) hs)
  have HT1 := Lib.hid (T1.mono (T := RS r v) (fun _ h => .inl h))
  have k6 := (cell_blk (o := 6) h.blk)
  have f6 := frozen_blk (o := 6) h.blk
  simp only [rcells, List.getElem?_toArray, List.getElem?_cons_succ, List.getElem?_cons_zero] at k6
  have hpos : (1 : Int) ≤ (n : Int) := by omega
  have HN := Lib.hid hn
  clear hc hk t1 T1 h h0 hb0 hs hn
  go_enter Tryz.func55, Tryz.ntmps55
  go_wp2_with fail
  refine HC.out.mono ?_
  rintro e w' hp
  have HP := Lib.hid (hp.later HT1.out)
  obtain ⟨z, rfl⟩ : ∃ z, e = .returned (.int .i64 z) := by
    exact hp.ends
  clear hp
  go_wp2_with fail
  go_ret
  exact HP.out

/-- Any line behind the first. -/
theorem bytes_any {w0 w : World} {r : Nat} {s : ScriptD} {v wv : Value} {L : List Bs} (h0 : Laid w0) (hb0 : Below w0.heap.size w0 w) (h : RAt w w0.heap.size r 1 s v) (hst : s.turns.length ≤ 4096) (hmod : s.mod.length ≤ 65536) (hw : StrSl w wv L) (hL : L ≠ []) (hne : ∀ a n c, wv = .slice (some a) n c → a.block ≠ r)
    (hLl : L.length ≤ 800000) (hs : ∀ i, i < L.length → (L[i]?.getD []).length ≤ 1000000) :
    Calls Tryz.prog 55 #[.pointer (some ⟨r, 0, none⟩), wv] w (if L.head? = some wBytes then RPostV w w0.heap.size r 1 v (bytesS s L) else RPostV w w0.heap.size r 2 v (turnS s L)) := by
  rcases hw with ⟨rfl, _⟩ | ⟨b, o, cap, rfl, hcap, hc⟩
  · exact absurd rfl hL
  · have hbr := hne _ _ _ rfl
    obtain ⟨k, A, rfl⟩ : ∃ k A, L = k :: A := by
      cases L with
      | nil => exact absurd rfl hL
      | cons k A => exact ⟨k, A, rfl⟩
    by_cases hk : k = wBytes
    · subst hk
      rw [if_pos (by rfl)]
      have c0 : w.cell? ⟨b, o, none⟩ = some (.string ⟨#[98, 121, 116, 101, 115]⟩) := hc 0 (by simp)
      have hn : 1 ≤ (wBytes :: A).length := by simp
      have key : ∀ X, bytesS s (wBytes :: A) = X → Calls Tryz.prog 55 #[.pointer (some ⟨r, 0, none⟩), .slice (some ⟨b, o, none⟩) (wBytes :: A).length cap] w (RPostV w w0.heap.size r 1 v X) → Calls Tryz.prog 55 #[.pointer (some ⟨r, 0, none⟩), .slice (some ⟨b, o, none⟩) (wBytes :: A).length cap] w (RPostV w w0.heap.size r 1 v (bytesS s (wBytes :: A))) := fun X e c => by rw [e]; exact c
      match A, hc, hs, hcap, hn, key with
      | [], hc, hs, hcap, hn, key => exact key (.error 5) rfl (bytes_bad (d := []) h c0 (fun h => by simp at h) hn hcap hmod (by simp) (.inl (by simp)))
      | [d], hc, hs, hcap, hn, key =>
        have c1 : w.cell? ⟨b, o + 1, none⟩ = some (.string (BT d)) := hc 1 (by simp)
        have hd1 : d.length ≤ 1000000 := hs 1 (by simp)
        by_cases hg : s.mod.length % 24 ≠ 0 ∨ d.length = 0 ∨ d.length % 2 = 1 ∨ 48 < d.length
        · refine key (.error 5) ?_ (bytes_bad (d := d) h c0 (fun _ => c1) hn hcap hmod hd1 (.inr hg))
          unfold bytesS
          simp only [if_pos hg]
        · exact bytes_x h0 hb0 h c0 c1 hcap hmod (by omega) (by omega) (by omega) (by omega)
      | d :: d2 :: A', hc, hs, hcap, hn, key => exact key (.error 5) rfl (bytes_bad (d := []) h c0 (fun h => by simp at h) hn hcap hmod (by simp) (.inl (by simp)))
    · rw [if_neg (by simp [hk])]
      exact bytes_turn h0 hb0 h hst hc hbr rfl hcap hk (by simp at hLl; omega) hs
end Go.Proofs.YtjnllclpdllceaaGreatDoor
