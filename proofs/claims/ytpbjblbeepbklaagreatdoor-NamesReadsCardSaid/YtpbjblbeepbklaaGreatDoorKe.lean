/- The program's walks: a channel's key. Printed by gen_wi.py. The program's walks: what is given up, and caught. The program's walks: a channel, a parent. The program's walks: an end. The program's walks: a whole number; what the deferred closures do. -/
import Derived.Test.YtpbjblbeepbklaaGreatDoorKd
import Derived.Defers
import Derived.Recover
import Derived.Lib.ParseIntBTie
namespace Go.Proofs.YtpbjblbeepbklaaGreatDoor
set_option linter.unusedSimpArgs false
set_option linter.unusedVariables false
section
open Go.RowKit Go.Shelf

theorem BT_data (l : Bs) : (BT l).data.toList = l := by unfold BT; simp
/-- The text without a first byte. -/
def cutHead (k : UInt8) : Bs → Option Bs
  | [] => none
  | x :: r => if x = k then some r else none
theorem cutPre_any (k : UInt8) (l : Bs) (w : World) : Calls Tryz.prog 61 #[.string (BT l), .string ⟨#[k]⟩] w fun e w' => e = .returned (.tuple #[.string (BT ((cutHead k l).getD l)), .bool (cutHead k l).isSome]) ∧ w' = w := by
  refine (Tryz.strings_CutPrefix (BT l) ⟨#[k]⟩ w).mono ?_
  rintro e w' ⟨rfl, rfl⟩
  refine ⟨?_, rfl⟩
  have hk : (⟨#[k]⟩ : ByteArray).data.toList = [k] := rfl
  rw [BT_data, hk]
  unfold Lib.trimPrefix Lib.hasPrefix cutHead
  cases l with
  | nil => simp [List.isPrefixOf]; rfl
  | cons x r =>
    by_cases h : x = k
    · subst h
      simp [List.isPrefixOf]; rfl
    · have : (k == x) = false := by rw [beq_eq_false_iff_ne]; exact fun e => h e.symm
      simp [List.isPrefixOf, this, h]; rfl
theorem lastByte_eq (k : UInt8) (l : Bs) : Lib.lastIndexByte (BT l) (k.toNat : Int) = lastI k l := by
  have key : ∀ i (h : i < l.length), ((BT l).data[i]!).toNat = (l[i]).toNat := by
    intro i h
    have := get_bt l i h
    unfold ByteArray.get! at this
    exact congrArg UInt8.toNat this
  have hs := Lib.lastIdx_spec (BT l) (k.toNat : Int) (BT l).size
  rw [BT_size] at hs
  unfold Lib.lastIndexByte
  rw [BT_size]
  rcases hs with ⟨h1, h2⟩ | ⟨i, hi, h1, h2, h3⟩
  · rw [h1]
    refine (lastI_none ?_).symm
    intro j _ hj e
    refine h2 j hj ?_
    rw [key j hj]
    rw [List.getElem?_eq_getElem hj] at e
    rw [Option.some.inj e]
  · rw [h1]
    refine (lastI_at hi ?_ ?_).symm
    · apply UInt8.toNat_inj.1
      rw [key i hi] at h2
      omega
    · intro j hj1 hj2 e
      refine h3 j (by omega) hj2 ?_
      rw [key j hj2]
      rw [List.getElem?_eq_getElem hj2] at e
      rw [Option.some.inj e]
theorem lastByte_any {l : Bs} (hl : l.length ≤ 4000000) (k : UInt8) (w : World) : Calls Tryz.prog 62 #[.string (BT l), .int .u8 (k.toNat : Int)] w fun e w' => e = .returned (.int .i64 (lastI k l)) ∧ w' = w := by
  refine (Tryz.strings_LastIndexByte (BT l) (k.toNat : Int) (by rw [BT_size]; omega) w).mono ?_
  rintro e w' ⟨rfl, rfl⟩
  exact ⟨by rw [lastByte_eq], rfl⟩
theorem lastOne_any {l : Bs} (hl : l.length ≤ 4000000) (k : UInt8) (w : World) : Calls Tryz.prog 35 #[.string (BT l), .string ⟨#[k]⟩] w fun e w' => e = .returned (.int .i64 (lastI k l)) ∧ w' = w := by
  refine (Tryz.strings_LastIndex_one (BT l) ⟨#[k]⟩ rfl (by rw [BT_size]; omega) w).mono ?_
  rintro e w' ⟨rfl, rfl⟩
  exact ⟨by rw [← lastByte_eq]; rfl, rfl⟩
theorem infoI : (Tryz.prog.info? 3).map (fun i => (i.zero, i.size, i.bytes)) = some (some (.int .i64 0), 1, 8) := by kernel_rfl
/-- Behind w0: a slice of own numbers. -/
structure OIS (w0 : World) (v : Value) (L : List Int) (w : World) : Prop where
  own : w.ownsRow w0.heap.size 3 1 v L.length (L.map (Value.int .i64))
  low : Turn Nn w0 w
theorem OIS.lit {w0 w : World} (t : Turn Nn w0 w) {x : Int} : OIS w0 (.slice (some ⟨w.heap.size, 0, none⟩) 1 1) [x] (w.alloc (.cells #[.int .i64 x] 3)) :=
  ⟨⟨rfl, .inr ⟨w.heap.size, 1, #[.int .i64 x], rfl, t.size, World.alloc_heap_new w _, Nat.le_refl _, by decide, rfl, rfl⟩⟩, t.alloc _⟩
theorem OIS.push {w0 w : World} {v s : Value} {L M : List Int} (h : OIS w0 v L w) (hs : IntSl w s M) (ty : TypeId) (hl : L.length + M.length ≤ 10000000) :
    ∃ v' W', (Builtin.append_ #[54, 54] ty #[v, s]).run Tryz.prog w = .ok v' W' ∧ OIS w0 v' (L ++ M) W' := by
  obtain ⟨i0, hi, hz0, hz1, hz2⟩ := info_parts infoI
  obtain ⟨b, o, cap, rfl, hcap, hc⟩ := hs
  obtain ⟨v', W', hrun, hown', hgrow, _, _⟩ := run_append_own_at (P := Tryz.prog) w w0.heap.size 54 ty 3 i0 _ 1 8 Tryz.underlying54 hi hz0 hz1 hz2 rfl (by decide) v _ _ h.own ⟨b, o, none⟩ M.length cap (M.map (Value.int .i64)) (by simp)
    (fun j u hj => by
      have hj3 : j < M.length := by
        have := (List.getElem?_eq_some_iff.1 hj).1
        simpa using this
      have : (⟨b, o, none⟩ : Addr).add j = ⟨b, o + j, none⟩ := by unfold Addr.add; split <;> simp_all
      rw [this, hc j hj3, ← hj]
      simp [hj3])
    (fun u hu => by obtain ⟨x, _, rfl⟩ := List.mem_map.1 hu; rfl) (by simp only [maxLen]; omega) (by omega) h.low.size
  refine ⟨v', W', hrun, ?_, grown_low h.low hgrow (fun j e => (h.own.lt j e).1)⟩
  rw [List.length_append, List.map_append]
  exact hown'
theorem OIS.turn {w0 w w' : World} {v : Value} {L : List Int} (h : OIS w0 v L w) (t : Turn Nn w w') : OIS w0 v L w' := ⟨ownsRow_turn h.own t, h.low.trans t⟩
theorem OIS.ints {w0 w : World} {v : Value} {L : List Int} (h : OIS w0 v L w) (hne : L ≠ []) : IntSl w v L := by
  rcases h.own.2 with ⟨rfl, h0⟩ | ⟨g, cap, cur, rfl, hb, hg, hn, _, hsz, ht⟩
  · exact absurd (List.eq_nil_of_length_eq_zero h0) hne
  · refine ⟨g, 0, cap, rfl, hn, fun i hi => ?_⟩
    rw [Nat.zero_add, cell_blk hg]
    have e1 : cur[i]? = (cur.toList.take (L.length * 1))[i]? := by
      rw [List.getElem?_take_of_lt (by omega)]; simp
    rw [e1, ht]
    simp [hi]
theorem two_ints {w : World} {x y : Int} : IntSl (w.alloc (.cells #[.int .i64 x, .int .i64 y] 3)) (.slice (some ⟨w.heap.size, 0, none⟩) 2 2) [x, y] := by
  refine ⟨w.heap.size, 0, 2, rfl, Nat.le_refl _, fun i hi => ?_⟩
  rw [Nat.zero_add, cell_blk (World.alloc_heap_new w _)]
  have : i = 0 ∨ i = 1 := by simp at hi; omega
  rcases this with rfl | rfl <;> rfl
theorem keyL_boot {r : Bs} {k : Nat} (h : numL r = some k) : keyL (99 :: r) = some [0, (k : Int)] := by
  have hb : bootN (99 :: r) = some k := h
  unfold keyL
  rw [hb]
theorem keyL_not {l : Bs} (h : ∀ r, cutHead 99 l = some r → numB r = false) : keyL l = (madeN l).map fun p => 1 :: p.1.map Int.ofNat ++ [-1, (p.2 : Int)] := by
  have hb : bootN l = none := by
    cases l with
    | nil => rfl
    | cons c r =>
      have := bootB_cons c r
      unfold bootB at this
      by_cases hc : c = 99
      · have h2 := h r (by show (if c = 99 then some r else none) = some r; rw [if_pos hc])
        rw [h2, Bool.and_false] at this
        cases hx : bootN (c :: r) with
        | none => rfl
        | some x => rw [hx] at this; cases this
      · rw [decide_eq_false hc, Bool.false_and] at this
        cases hx : bootN (c :: r) with
        | none => rfl
        | some x => rw [hx] at this; cases this
  unfold keyL
  rw [hb]
theorem madeN_none1 {l : Bs} (h : lastC 43 l = none) : madeN l = none := by unfold madeN; rw [h]
theorem madeN_none2 {l a b : Bs} (h : lastC 43 l = some (a, b)) (h2 : numB b = false) : madeN l = none := by
  unfold madeN
  rw [h]
  simp only
  unfold numB at h2
  cases hb : numL b with
  | none => rfl
  | some k => rw [hb] at h2; cases h2
theorem madeN_none3 {l a b : Bs} (h : lastC 43 l = some (a, b)) (h2 : partsL a = none) : madeN l = none := by
  unfold madeN
  rw [h]
  simp only
  rw [h2]
  cases numL b <;> rfl
theorem madeN_some' {l a b : Bs} {k : Nat} {A : List Nat} (h : lastC 43 l = some (a, b)) (h1 : numL b = some k) (h2 : partsL a = some A) : madeN l = some (A, k) := by
  unfold madeN
  rw [h]
  simp only
  rw [h1, h2]
theorem partsL_len {a : Bs} {A : List Nat} (h : partsL a = some A) : A.length ≤ a.length + 1 := by
  have h1 := numsL_val h
  rw [h1, List.length_map]
  exact spC_length 46 a
set_option maxRecDepth 100000 in
set_option maxHeartbeats 8000000 in
theorem key_any {l : Bs} (hl : l.length ≤ 4000000) {w : World} (hw : Laid w) :
    Calls Tryz.prog 32 #[.string (BT l)] w fun e w' => ∃ v, e = .returned v ∧ IntsOr w' v (keyL l) ∧ Turn Nn w w' := by
  have HP := Lib.hid (cutPre_any 99 l w)
  have HLD := Lib.hid hw
  have h43 : ((43 : UInt8).toNat : Int) = 43 := rfl
  have HLB := fun w => Lib.hid (lastByte_any hl 43 w)
  rw [h43] at HLB
  have hsz : (BT l).size = l.length := BT_size l
  clear hw h43
  cases hc : cutHead 99 l with
  | none =>
    rw [hc] at HP
    have hk := keyL_not (l := l) (fun r h => by rw [hc] at h; cases h)
    rw [hk]
    simp only [Option.getD_none, Option.isSome_none] at HP
    clear hc hk
    cases hc : lastC 43 l with
    | none =>
      rw [madeN_none1 hc]
      simp only [lastI_no hc] at HLB
      obtain ⟨M, hM⟩ : ∃ M, BT l = M := ⟨_, rfl⟩
      rw [hM] at HP ⊢
      simp only [hM] at HLB
      clear hM hc hsz hl
      go_enter Tryz.func32, Tryz.ntmps32
      go_wp2_with fail
      refine HP.out.mono ?_
      rintro e w2 ⟨rfl, hw2⟩
      have T2 : Hid (Turn Nn w w2) := Lib.hid (by rw [hw2]; exact Turn.refl _ _)
      clear hw2
      go_wp2_with fail
      refine (HLB _).out.mono ?_
      rintro e w3 ⟨rfl, rfl⟩
      go_wp2_with fail
      go_ret
      exact ⟨_, rfl, rfl, T2.out⟩
    | some p =>
      obtain ⟨a, b⟩ := p
      obtain ⟨hi, he⟩ := lastI_some hc
      simp only [hi] at HLB
      have hla : a.length + 1 + b.length = l.length := by rw [he]; simp; omega
      have HPA := fun w (h : Laid w) => Lib.hid (parts_any (l := a) (by omega) h)
      have HNB := fun w => Lib.hid (number_any (l := b) (by omega) w)
      have hc1 : (BT l).extract 0 a.length = BT a := by rw [he]; exact BT_cat_take _ _
      have hc2 : (BT l).extract (a.length + 1) (BT l).size = BT b := by rw [he]; exact BT_cat_drop _ _ _
      obtain ⟨M, hM⟩ : ∃ M, BT l = M := ⟨_, rfl⟩
      obtain ⟨n, hn⟩ : ∃ n, a.length = n := ⟨_, rfl⟩
      rw [hM] at HP hc1 hc2 hsz ⊢
      simp only [hM, hn] at HLB
      rw [hn] at hc1 hc2 hla
      have hn1 : n + 1 ≤ M.size := by omega
      have hn2 : M.size ≤ 4000000 := by omega
      cases hnb : numB b with
      | false =>
        rw [madeN_none2 hc hnb]
        rw [hnb] at HNB
        clear hM hc hsz hl hi he hn hnb hc1 hla HPA
        go_enter Tryz.func32, Tryz.ntmps32
        go_wp2_with fail
        refine HP.out.mono ?_
        rintro e w2 ⟨rfl, hw2⟩
        have T2 : Hid (Turn Nn w w2) := Lib.hid (by rw [hw2]; exact Turn.refl _ _)
        clear hw2
        go_wp2_with fail
        refine (HLB _).out.mono ?_
        rintro e w3 ⟨rfl, rfl⟩
        go_wp2_with fail
        refine (HNB _).out.mono ?_
        rintro e w4 ⟨rfl, t4⟩
        have T4 := Lib.hid (T2.out.trans t4)
        clear t4
        go_wp2_with fail
        go_ret
        exact ⟨_, rfl, rfl, T4.out⟩
      | true =>
        have hnum := numB_val hnb
        rw [hnb] at HNB
        have HA := fun w => Lib.hid (atoi_any hnum w)
        cases hpa : partsL a with
        | none =>
          rw [madeN_none3 hc hpa]
          rw [hpa] at HPA
          clear hM hc hsz hl hi he hn hnb hla HA hnum hpa
          go_enter Tryz.func32, Tryz.ntmps32
          go_wp2_with fail
          refine HP.out.mono ?_
          rintro e w2 ⟨rfl, hw2⟩
          have T2 : Hid (Turn Nn w w2) := Lib.hid (by rw [hw2]; exact Turn.refl _ _)
          clear hw2
          go_wp2_with fail
          refine (HLB _).out.mono ?_
          rintro e w3 ⟨rfl, rfl⟩
          go_wp2_with fail
          refine (HNB _).out.mono ?_
          rintro e w4 ⟨rfl, t4⟩
          have T4 := Lib.hid (T2.out.trans t4)
          clear t4
          go_wp2_with fail
          refine (HPA _ (HLD.out.turn T4.out)).out.mono ?_
          rintro e w5 ⟨v5, rfl, ho, t5⟩
          obtain rfl : v5 = .slice none 0 0 := ho
          have hnn : ∀ W : World, (binOp BinOp.eql 54 (.slice none 0 0) (.slice none 0 0)).run Tryz.prog W = .ok (.bool true) W := fun W => by first | rfl | kernel_rfl | simp [go_sem]
          have T5 := Lib.hid (T4.out.trans t5)
          clear t5
          go_wp2_with fail
          go_ret
          exact ⟨_, rfl, rfl, T5.out⟩
        | some A =>
          rw [madeN_some' hc hnum hpa]
          rw [hpa] at HPA
          have HAL := Lib.hid (partsL_len hpa)
          obtain ⟨z, hz⟩ : ∃ z : Nat, valN b = z := ⟨_, rfl⟩
          simp only [hz] at HA ⊢
          obtain ⟨N, hN⟩ : ∃ N, A.map Int.ofNat = N := ⟨_, rfl⟩
          have HAL2 : Hid (N.length ≤ 4000001) := Lib.hid (by have := HAL.out; rw [← hN, List.length_map]; omega)
          have HKN : Hid ((Option.map (fun p : List Nat × Nat => 1 :: p.1.map Int.ofNat ++ [-1, (p.2 : Int)]) (some (A, z))) = some (([1] ++ N) ++ [-1, (z : Int)])) := Lib.hid (by rw [← hN]; rfl)
          have HPA2 : ∀ (w : World) (h : Laid w), Hid (Calls Tryz.prog 29 #[.string (BT a)] w fun e w' => ∃ v, e = .returned v ∧ IntSl w' v N ∧ Turn Nn w w') := fun w h => by rw [← hN]; exact HPA w h
          rw [HKN.out]
          clear hM hc hsz hl hi he hn hnb hla hnum hpa HAL hz hN HPA HKN
          go_enter Tryz.func32, Tryz.ntmps32
          go_wp2_with fail
          refine HP.out.mono ?_
          rintro e w2 ⟨rfl, hw2⟩
          have T2 : Hid (Turn Nn w w2) := Lib.hid (by rw [hw2]; exact Turn.refl _ _)
          clear hw2
          go_wp2_with fail
          refine (HLB _).out.mono ?_
          rintro e w3 ⟨rfl, rfl⟩
          go_wp2_with fail
          refine (HNB _).out.mono ?_
          rintro e w4 ⟨rfl, t4⟩
          have T4 := Lib.hid (T2.out.trans t4)
          clear t4
          go_wp2_with fail
          refine (HPA2 _ (HLD.out.turn T4.out)).out.mono ?_
          rintro e w5 ⟨v5, rfl, ho, t5⟩
          have HO := Lib.hid ho
          obtain ⟨b5, o5, c5, rfl, _, _⟩ := ho
          have T5 := Lib.hid (T4.out.trans t5)
          clear t5
          have hnil : ∀ (n : Nat) (W : World), (binOp BinOp.eql 54 (.slice (some ⟨b5, o5, none⟩) n c5) (.slice none 0 0)).run Tryz.prog W = .ok (.bool false) W := fun n W => by first | rfl | kernel_rfl | simp [go_sem]
          go_wp2_with fail
          refine (HA _).out.mono ?_
          rintro e w6 ⟨rfl, t6⟩
          have T6 := Lib.hid (T5.out.trans t6)
          have HO6 := HO.out.turn t6
          obtain ⟨v7, w7, hr7, O7⟩ := (OIS.lit T6.out (x := 1)).push (HO6.turn ((Turn.refl Nn w6).alloc _)) 54 (by have := HAL2.out; simp; omega)
          have O8 := Lib.hid (O7.turn ((Turn.refl Nn w7).alloc (.cells #[.int .i64 (-1), .int .i64 (z : Int)] 3)))
          obtain ⟨v9, w9, hr9, O9⟩ := O8.out.push two_ints 54 (by have := HAL2.out; simp; omega)
          have HR7 := Lib.hid hr7
          have HR9 := Lib.hid hr9
          have HO9 := Lib.hid O9
          clear t6 O7 hr7 hr9 O9 HO6
          go_wp2_with (at_builtin; first | refine wpList_append_eq rfl _ _ 54 rfl _ _ rfl rfl HR7.out ?_ | refine wpList_append_eq rfl _ _ 54 rfl _ _ rfl rfl HR9.out ?_)
          go_ret
          refine ⟨_, rfl, ?_, HO9.out.low⟩
          exact HO9.out.ints (by simp)
  | some r =>
    have hrl : r.length ≤ l.length := by
      cases l with
      | nil => cases hc
      | cons x t =>
        simp only [cutHead] at hc
        split at hc
        · cases hc; simp
        · cases hc
    rw [hc] at HP
    simp only [Option.getD_some, Option.isSome_some] at HP
    have HN := fun w => Lib.hid (number_any (l := r) (by omega) w)
    cases hn : numB r with
    | true =>
      have hnum := numB_val hn
      have hl2 : l = 99 :: r := by
        cases l with
        | nil => cases hc
        | cons x t =>
          simp only [cutHead] at hc
          split at hc
          · rename_i hx; cases hc; rw [hx]
          · cases hc
      have HK := Lib.hid (keyL_boot hnum)
      rw [← hl2] at HK
      have HA := fun w => Lib.hid (atoi_any hnum w)
      rw [hn] at HN
      obtain ⟨z, hz⟩ : ∃ z : Nat, valN r = z := ⟨_, rfl⟩
      rw [hz] at HA HK
      obtain ⟨M, hM⟩ : ∃ M, BT l = M := ⟨_, rfl⟩
      rw [hM] at HP ⊢
      clear hM hz hl2 hn hnum hc hrl HLB hsz hl
      go_enter Tryz.func32, Tryz.ntmps32
      go_wp2_with fail
      refine HP.out.mono ?_
      rintro e w1 ⟨rfl, rfl⟩
      go_wp2_with fail
      refine (HN _).out.mono ?_
      rintro e w2 ⟨rfl, t2⟩
      have T2 := Lib.hid t2
      clear t2
      go_wp2_with fail
      refine (HA _).out.mono ?_
      rintro e w3 ⟨rfl, t3⟩
      have T3 := Lib.hid (T2.out.trans t3)
      clear t3
      go_wp2_with fail
      go_ret
      refine ⟨_, rfl, ?_, T3.out.alloc _⟩
      rw [HK.out]
      exact two_ints
    | false =>
      have hk := keyL_not (l := l) (fun r' h => by rw [hc] at h; cases h; exact hn)
      rw [hk]
      rw [hn] at HN
      clear hc hk hn hrl
      cases hc : lastC 43 l with
      | none =>
        rw [madeN_none1 hc]
        simp only [lastI_no hc] at HLB
        obtain ⟨M, hM⟩ : ∃ M, BT l = M := ⟨_, rfl⟩
        rw [hM] at HP ⊢
        simp only [hM] at HLB
        clear hM hc hsz hl
        go_enter Tryz.func32, Tryz.ntmps32
        go_wp2_with fail
        refine HP.out.mono ?_
        rintro e w1 ⟨rfl, rfl⟩
        go_wp2_with fail
        refine (HN _).out.mono ?_
        rintro e w2 ⟨rfl, t2⟩
        have T2 := Lib.hid t2
        clear t2
        go_wp2_with fail
        refine (HLB _).out.mono ?_
        rintro e w3 ⟨rfl, rfl⟩
        go_wp2_with fail
        go_ret
        exact ⟨_, rfl, rfl, T2.out⟩
      | some p =>
        obtain ⟨a, b⟩ := p
        obtain ⟨hi, he⟩ := lastI_some hc
        simp only [hi] at HLB
        have hla : a.length + 1 + b.length = l.length := by rw [he]; simp; omega
        have HPA := fun w (h : Laid w) => Lib.hid (parts_any (l := a) (by omega) h)
        have HNB := fun w => Lib.hid (number_any (l := b) (by omega) w)
        have hc1 : (BT l).extract 0 a.length = BT a := by rw [he]; exact BT_cat_take _ _
        have hc2 : (BT l).extract (a.length + 1) (BT l).size = BT b := by rw [he]; exact BT_cat_drop _ _ _
        obtain ⟨M, hM⟩ : ∃ M, BT l = M := ⟨_, rfl⟩
        obtain ⟨n, hn⟩ : ∃ n, a.length = n := ⟨_, rfl⟩
        rw [hM] at HP hc1 hc2 hsz ⊢
        simp only [hM, hn] at HLB
        rw [hn] at hc1 hc2 hla
        have hn1 : n + 1 ≤ M.size := by omega
        have hn2 : M.size ≤ 4000000 := by omega
        cases hnb : numB b with
        | false =>
          rw [madeN_none2 hc hnb]
          rw [hnb] at HNB
          clear hM hc hsz hl hi he hn hnb hc1 hla HPA
          go_enter Tryz.func32, Tryz.ntmps32
          go_wp2_with fail
          refine HP.out.mono ?_
          rintro e w1 ⟨rfl, rfl⟩
          go_wp2_with fail
          refine (HN _).out.mono ?_
          rintro e w2 ⟨rfl, t2⟩
          have T2 := Lib.hid t2
          clear t2
          go_wp2_with fail
          refine (HLB _).out.mono ?_
          rintro e w3 ⟨rfl, rfl⟩
          go_wp2_with fail
          refine (HNB _).out.mono ?_
          rintro e w4 ⟨rfl, t4⟩
          have T4 := Lib.hid (T2.out.trans t4)
          clear t4
          go_wp2_with fail
          go_ret
          exact ⟨_, rfl, rfl, T4.out⟩
        | true =>
          have hnum := numB_val hnb
          rw [hnb] at HNB
          have HA := fun w => Lib.hid (atoi_any hnum w)
          cases hpa : partsL a with
          | none =>
            rw [madeN_none3 hc hpa]
            rw [hpa] at HPA
            clear hM hc hsz hl hi he hn hnb hla HA hnum hpa
            go_enter Tryz.func32, Tryz.ntmps32
            go_wp2_with fail
            refine HP.out.mono ?_
            rintro e w1 ⟨rfl, rfl⟩
            go_wp2_with fail
            refine (HN _).out.mono ?_
            rintro e w2 ⟨rfl, t2⟩
            have T2 := Lib.hid t2
            clear t2
            go_wp2_with fail
            refine (HLB _).out.mono ?_
            rintro e w3 ⟨rfl, rfl⟩
            go_wp2_with fail
            refine (HNB _).out.mono ?_
            rintro e w4 ⟨rfl, t4⟩
            have T4 := Lib.hid (T2.out.trans t4)
            clear t4
            go_wp2_with fail
            refine (HPA _ (HLD.out.turn T4.out)).out.mono ?_
            rintro e w5 ⟨v5, rfl, ho, t5⟩
            obtain rfl : v5 = .slice none 0 0 := ho
            have hnn : ∀ W : World, (binOp BinOp.eql 54 (.slice none 0 0) (.slice none 0 0)).run Tryz.prog W = .ok (.bool true) W := fun W => by first | rfl | kernel_rfl | simp [go_sem]
            have T5 := Lib.hid (T4.out.trans t5)
            clear t5
            go_wp2_with fail
            go_ret
            exact ⟨_, rfl, rfl, T5.out⟩
          | some A =>
            rw [madeN_some' hc hnum hpa]
            rw [hpa] at HPA
            have HAL := Lib.hid (partsL_len hpa)
            obtain ⟨z, hz⟩ : ∃ z : Nat, valN b = z := ⟨_, rfl⟩
            simp only [hz] at HA ⊢
            obtain ⟨N, hN⟩ : ∃ N, A.map Int.ofNat = N := ⟨_, rfl⟩
            have HAL2 : Hid (N.length ≤ 4000001) := Lib.hid (by have := HAL.out; rw [← hN, List.length_map]; omega)
            have HKN : Hid ((Option.map (fun p : List Nat × Nat => 1 :: p.1.map Int.ofNat ++ [-1, (p.2 : Int)]) (some (A, z))) = some (([1] ++ N) ++ [-1, (z : Int)])) := Lib.hid (by rw [← hN]; rfl)
            have HPA2 : ∀ (w : World) (h : Laid w), Hid (Calls Tryz.prog 29 #[.string (BT a)] w fun e w' => ∃ v, e = .returned v ∧ IntSl w' v N ∧ Turn Nn w w') := fun w h => by rw [← hN]; exact HPA w h
            rw [HKN.out]
            clear hM hc hsz hl hi he hn hnb hla hnum hpa HAL hz hN HPA HKN
            go_enter Tryz.func32, Tryz.ntmps32
            go_wp2_with fail
            refine HP.out.mono ?_
            rintro e w1 ⟨rfl, rfl⟩
            go_wp2_with fail
            refine (HN _).out.mono ?_
            rintro e w2 ⟨rfl, t2⟩
            have T2 := Lib.hid t2
            clear t2
            go_wp2_with fail
            refine (HLB _).out.mono ?_
            rintro e w3 ⟨rfl, rfl⟩
            go_wp2_with fail
            refine (HNB _).out.mono ?_
            rintro e w4 ⟨rfl, t4⟩
            have T4 := Lib.hid (T2.out.trans t4)
            clear t4
            go_wp2_with fail
            refine (HPA2 _ (HLD.out.turn T4.out)).out.mono ?_
            rintro e w5 ⟨v5, rfl, ho, t5⟩
            have HO := Lib.hid ho
            obtain ⟨b5, o5, c5, rfl, _, _⟩ := ho
            have T5 := Lib.hid (T4.out.trans t5)
            clear t5
            have hnil : ∀ (n : Nat) (W : World), (binOp BinOp.eql 54 (.slice (some ⟨b5, o5, none⟩) n c5) (.slice none 0 0)).run Tryz.prog W = .ok (.bool false) W := fun n W => by first | rfl | kernel_rfl | simp [go_sem]
            go_wp2_with fail
            refine (HA _).out.mono ?_
            rintro e w6 ⟨rfl, t6⟩
            have T6 := Lib.hid (T5.out.trans t6)
            have HO6 := HO.out.turn t6
            obtain ⟨v7, w7, hr7, O7⟩ := (OIS.lit T6.out (x := 1)).push (HO6.turn ((Turn.refl Nn w6).alloc _)) 54 (by have := HAL2.out; simp; omega)
            have O8 := Lib.hid (O7.turn ((Turn.refl Nn w7).alloc (.cells #[.int .i64 (-1), .int .i64 (z : Int)] 3)))
            obtain ⟨v9, w9, hr9, O9⟩ := O8.out.push two_ints 54 (by have := HAL2.out; simp; omega)
            have HR7 := Lib.hid hr7
            have HR9 := Lib.hid hr9
            have HO9 := Lib.hid O9
            clear t6 O7 hr7 hr9 O9 HO6
            go_wp2_with (at_builtin; first | refine wpList_append_eq rfl _ _ 54 rfl _ _ rfl rfl HR7.out ?_ | refine wpList_append_eq rfl _ _ 54 rfl _ _ rfl rfl HR9.out ?_)
            go_ret
            refine ⟨_, rfl, ?_, HO9.out.low⟩
            exact HO9.out.ints (by simp)
end
section
open Go.RowKit Go.Shelf

/-- Given up. -/
def badE : Ending := .panicked [{ v := .iface 90 (.agg #[]), recovered := false }]
theorem need_yes (w : World) : Calls Tryz.prog 41 #[.bool true] w fun e w' => e = .returned (.tuple #[]) ∧ w' = w := by
  go_enter Tryz.func41, Tryz.ntmps41
  go_wp2_with fail
  go_end0
  exact ⟨rfl, rfl⟩
theorem need_no (w : World) : Calls Tryz.prog 41 #[.bool false] w fun e w' => e = badE ∧ w' = w := by
  go_enter Tryz.func41, Tryz.ntmps41
  go_wp2_with fail
  exact ⟨rfl, rfl, rfl⟩
theorem caught_no (p : Addr) (w : World) :
    CallsD Tryz.prog 40 #[.pointer (some p)] .returning w fun e u' w' => e = .returned (.tuple #[]) ∧ u' = .returning ∧ w' = w := by
  refine callsD_of_wpS Tryz.func40 rfl fun c₀ cs hu => ?_
  apply wpS_seq
  apply wpS_region
  simp [wpOpsS, go_sem, recoverD, hu, Tryz.ntmps40, Exit.thenS]
  have e : (#[Value.pointer (some p)] ++ ((Array.replicate 17 undef).setIfInBounds 4 Value.nilIface).setIfInBounds 1 Value.nilIface) = #[.pointer (some p), undef, .nilIface, undef, undef, .nilIface, undef, undef, undef, undef, undef, undef, undef, undef, undef, undef, undef, undef] := rfl
  rw [e]
  refine wpS_of_wp ?_
  go_wp2_with fail
  cases c₀
  simp_all [bodyPostS, results, Tryz.results40]
set_option maxRecDepth 100000 in
set_option maxHeartbeats 8000000 in
theorem caught_yes {b : Nat} {w : World} {x : Bool} (hb : w.heap[b]? = some (.cells #[.bool x] 4)) :
    CallsD Tryz.prog 40 #[.pointer (some ⟨b, 0, none⟩)] (.panicking [{ v := .iface 90 (.agg #[]), recovered := false }]) w fun e u' w' => e = .returned (.tuple #[]) ∧ u' = .panicking [{ v := .iface 90 (.agg #[]), recovered := true }] ∧ w' = (w.alloc (.cells #[] 90)).setCell ⟨b, 0, none⟩ (.bool true) := by
  have hb2 : (w.alloc (.cells #[] 90)).heap[b]? = some (.cells #[.bool x] 4) := (Below.heap_alloc _ _ _ (heap_lt hb)).trans hb
  have c2 : (w.alloc (.cells #[] 90)).cell? ⟨b, 0, none⟩ = some (.bool x) := cell_blk hb2
  have z2 := frozen_blk (o := 0) hb2
  refine callsD_of_wpS Tryz.func40 rfl fun c₀ cs hu => ?_
  apply wpS_seq
  apply wpS_region
  simp [wpOpsS, go_sem, recoverD, hu, Tryz.ntmps40, Exit.thenS]
  have e : (#[Value.pointer (some (⟨b, 0, none⟩ : Addr))] ++ ((Array.replicate 17 undef).setIfInBounds 4 (Value.iface 90 (.agg #[]))).setIfInBounds 1 (Value.iface 90 (.agg #[]))) = #[.pointer (some ⟨b, 0, none⟩), undef, .iface 90 (.agg #[]), undef, undef, .iface 90 (.agg #[]), undef, undef, undef, undef, undef, undef, undef, undef, undef, undef, undef, undef] := rfl
  rw [e]
  have hta : ∀ W : World, (Instr.typeAssert (.iface 90 (.agg #[])) 20 90 true).run Tryz.prog W = .ok (.tuple #[.agg #[], .bool true]) W := fun W => by first | rfl | kernel_rfl
  refine wpS_of_wp ?_
  clear hb hb2
  go_wp2_with fail
  cases c₀
  simp_all [bodyPostS, results, Tryz.results40]
end
section
open Go.RowKit Go.Shelf

theorem chan_any {l : Bs} (hl : l.length ≤ 4000000) {w : World} (hw : Laid w) :
    Calls Tryz.prog 14 #[.string (BT l)] w fun e w' => e = .returned (.bool (chanL l)) ∧ Turn Nn w w' := by
  have HP := Lib.hid (key_any hl hw)
  have ha : chanL l = (keyL l).isSome := rfl
  rw [ha]
  obtain ⟨x, hx⟩ : ∃ x, keyL l = x := ⟨_, rfl⟩
  rw [hx] at HP ⊢
  obtain ⟨z, hz⟩ : ∃ z, x.isSome = z := ⟨_, rfl⟩
  rw [hz]
  have HZ := Lib.hid hz
  clear hx ha hw hz
  go_enter Tryz.func14, Tryz.ntmps14
  go_wp2_with fail
  refine HP.out.mono ?_
  rintro e w2 ⟨v, rfl, ho, t⟩
  have HT := Lib.hid t
  clear t
  rcases notnil_or ho with ⟨b, o, n, c, rfl, h⟩ | ⟨rfl, h⟩
  · obtain rfl : z = true := HZ.out.symm.trans h
    clear ho h
    go_wp2_with fail
    go_ret
    exact ⟨rfl, HT.out⟩
  · obtain rfl : z = false := HZ.out.symm.trans h
    clear ho h
    go_wp2_with fail
    go_ret
    exact ⟨rfl, HT.out⟩
set_option maxRecDepth 100000 in
set_option maxHeartbeats 8000000 in
theorem parent_any {l : Bs} (hl : l.length ≤ 4000000) {w : World} (hw : Laid w) :
    Calls Tryz.prog 16 #[.string (BT l)] w fun e w' => e = .returned (.string (BT (parentL l))) ∧ Turn Nn w w' := by
  have HC := Lib.hid (chan_any hl hw)
  have HA := fun w (h : Laid w) => Lib.hid (actor_any hl h)
  have HL := fun w => Lib.hid (lastOne_any hl 43 w)
  have HD := fun w => Lib.hid (lastOne_any hl 46 w)
  have hsz : (BT l).size = l.length := BT_size l
  have HW := Lib.hid hw
  clear hw
  have e0 : (max (0 : Int) (-1)).toNat = 0 := by decide
  have e1 : ∀ n : Nat, (max (0 : Int) (n : Int)).toNat = n := fun n => by rw [Int.max_eq_right (by omega)]; simp
  obtain ⟨x, hx⟩ : ∃ x, actorL l = x := ⟨_, rfl⟩
  obtain ⟨y, hy⟩ : ∃ y, chanL l = y := ⟨_, rfl⟩
  rw [hy] at HC
  cases y with
  | true =>
    rw [parentL_chan hy]
    clear HA HD
    cases hc : lastC 43 l with
    | none =>
      simp only [lastI_no hc] at HL
      have hc0 : (BT l).extract 0 0 = BT [] := BT_ext_take (by omega)
      obtain ⟨M, hM⟩ : ∃ M, BT l = M := ⟨_, rfl⟩
      rw [hM] at HC hc0 ⊢
      simp only [hM] at HL
      have hc1 : M.extract 0 0 = ⟨#[]⟩ := hc0
      clear hM hx hy hc hsz hc0
      go_enter Tryz.func16, Tryz.ntmps16
      go_wp2_with fail
      refine HC.out.mono ?_
      rintro e w2 ⟨rfl, t⟩
      have HT := Lib.hid t
      clear t
      go_wp2_with fail
      refine (HL _).out.mono ?_
      rintro e w4 ⟨rfl, rfl⟩
      go_wp2_with fail
      go_ret
      exact ⟨by simp only [e0, hc1]; rfl, HT.out⟩
    | some p =>
      obtain ⟨a, r⟩ := p
      obtain ⟨hi, he⟩ := lastI_some hc
      simp only [hi] at HL
      have hla : a.length + 1 + r.length = l.length := by rw [he]; simp; omega
      have hc1 : (BT l).extract 0 a.length = BT a := by rw [he]; exact BT_cat_take _ _
      obtain ⟨M, hM⟩ : ∃ M, BT l = M := ⟨_, rfl⟩
      obtain ⟨n, hn⟩ : ∃ n, a.length = n := ⟨_, rfl⟩
      rw [hM] at HC hc1 hsz ⊢
      simp only [hM, hn] at HL
      rw [hn] at hc1 hla
      have hn1 : n + 1 ≤ M.size := by omega
      have hn2 : M.size ≤ 4000000 := by omega
      have hn3 : (max (0 : Int) (n : Int)) = n := Int.max_eq_right (by omega)
      clear hM hx hy hc hsz hi he hla hn hl
      go_enter Tryz.func16, Tryz.ntmps16
      go_wp2_with fail
      refine HC.out.mono ?_
      rintro e w2 ⟨rfl, t⟩
      have HT := Lib.hid t
      clear t
      go_wp2_with fail
      refine (HL _).out.mono ?_
      rintro e w4 ⟨rfl, rfl⟩
      go_wp2_with fail
      go_ret
      exact ⟨by simp only [e1, hc1]; rfl, HT.out⟩
  | false =>
    cases x with
    | true =>
      rw [parentL_actor hx]
      rw [hx] at HA
      clear HL
      cases hc : lastC 46 l with
      | none =>
        simp only [lastI_no hc] at HD
        have hc0 : (BT l).extract 0 0 = BT [] := BT_ext_take (by omega)
        obtain ⟨M, hM⟩ : ∃ M, BT l = M := ⟨_, rfl⟩
        rw [hM] at HC hc0 ⊢
        simp only [hM] at HD HA
        have hc1 : M.extract 0 0 = ⟨#[]⟩ := hc0
        clear hM hx hy hc hsz hc0
        go_enter Tryz.func16, Tryz.ntmps16
        go_wp2_with fail
        refine HC.out.mono ?_
        rintro e w2 ⟨rfl, t⟩
        have HT := Lib.hid t
        clear t
        go_wp2_with fail
        refine (HA _ (HW.out.turn HT.out)).out.mono ?_
        rintro e w3 ⟨rfl, t⟩
        have HT2 := Lib.hid (HT.out.trans t)
        clear t
        go_wp2_with fail
        refine (HD _).out.mono ?_
        rintro e w4 ⟨rfl, rfl⟩
        go_wp2_with fail
        go_ret
        exact ⟨by simp only [e0, hc1]; rfl, HT2.out⟩
      | some p =>
        obtain ⟨a, r⟩ := p
        obtain ⟨hi, he⟩ := lastI_some hc
        simp only [hi] at HD
        have hla : a.length + 1 + r.length = l.length := by rw [he]; simp; omega
        have hc1 : (BT l).extract 0 a.length = BT a := by rw [he]; exact BT_cat_take _ _
        obtain ⟨M, hM⟩ : ∃ M, BT l = M := ⟨_, rfl⟩
        obtain ⟨n, hn⟩ : ∃ n, a.length = n := ⟨_, rfl⟩
        rw [hM] at HC hc1 hsz ⊢
        simp only [hM, hn] at HD
        simp only [hM] at HA
        rw [hn] at hc1 hla
        have hn1 : n + 1 ≤ M.size := by omega
        have hn2 : M.size ≤ 4000000 := by omega
        have hn3 : (max (0 : Int) (n : Int)) = n := Int.max_eq_right (by omega)
        clear hM hx hy hc hsz hi he hla hn hl
        go_enter Tryz.func16, Tryz.ntmps16
        go_wp2_with fail
        refine HC.out.mono ?_
        rintro e w2 ⟨rfl, t⟩
        have HT := Lib.hid t
        clear t
        go_wp2_with fail
        refine (HA _ (HW.out.turn HT.out)).out.mono ?_
        rintro e w3 ⟨rfl, t⟩
        have HT2 := Lib.hid (HT.out.trans t)
        clear t
        go_wp2_with fail
        refine (HD _).out.mono ?_
        rintro e w4 ⟨rfl, rfl⟩
        go_wp2_with fail
        go_ret
        exact ⟨by simp only [e1, hc1]; rfl, HT2.out⟩
    | false =>
      rw [parentL_no hy hx]
      rw [hx] at HA
      clear hx hy HD HL hsz e0 e1
      go_enter Tryz.func16, Tryz.ntmps16
      go_wp2_with fail
      refine HC.out.mono ?_
      rintro e w2 ⟨rfl, t⟩
      have HT := Lib.hid t
      clear t
      go_wp2_with fail
      refine (HA _ (HW.out.turn HT.out)).out.mono ?_
      rintro e w3 ⟨rfl, t⟩
      have HT2 := Lib.hid (HT.out.trans t)
      clear t
      go_wp2_with fail
      go_ret
      exact ⟨rfl, HT2.out⟩
end
section
open Go.RowKit Go.Shelf

theorem itoa_any {n : Int} (h : Int64 n) {w : World} (hw : Laid w) : Calls Tryz.prog 28 #[.int .i64 n] w fun e w' => e = .returned (.string (BT (Lib.itoa n))) ∧ Turn Nn w w' := by
  refine (Tryz.strconv_Itoa n h.1 h.2 w hw.pow).mono ?_
  rintro e w' ⟨rfl, k, os, rfl⟩
  exact ⟨rfl, ((Turn.refl Nn w).drewN k).grow os⟩
theorem format_any {n : Int} (h : Int64 n) {w : World} (hw : Laid w) : Calls Tryz.prog 80 #[.int .i64 n, .int .i64 10] w fun e w' => e = .returned (.string (BT (Lib.itoa n))) ∧ Turn Nn w w' := by
  refine (Tryz.strconv_FormatInt_10 n h.1 h.2 w hw.pow).mono ?_
  rintro e w' ⟨rfl, k, os, rfl⟩
  exact ⟨rfl, ((Turn.refl Nn w).drewN k).grow os⟩
theorem cutSuf_yes {l a t : Bs} (h : l = a ++ t) (hl : l.length ≤ 4000000) (w : World) :
    Calls Tryz.prog 27 #[.string (BT l), .string (BT t)] w fun e w' => e = .returned (.tuple #[.string (BT a), .bool true]) ∧ w' = w := by
  refine (Tryz.strings_CutSuffix (BT l) (BT t) w (by rw [BT_size]; omega)).mono ?_
  rintro e w' ⟨rfl, rfl⟩
  have h1 : Lib.hasSuffix l t = true := by
    unfold Lib.hasSuffix
    rw [List.isSuffixOf_iff_suffix]
    exact ⟨a, h.symm⟩
  refine ⟨?_, rfl⟩
  rw [BT_data, BT_data]
  unfold Lib.trimSuffix
  rw [h1, h]
  simp [BT]
theorem cutSuf_no {l t : Bs} (h : ∀ a, l ≠ a ++ t) (hl : l.length ≤ 4000000) (w : World) :
    Calls Tryz.prog 27 #[.string (BT l), .string (BT t)] w fun e w' => e = .returned (.tuple #[.string (BT l), .bool false]) ∧ w' = w := by
  refine (Tryz.strings_CutSuffix (BT l) (BT t) w (by rw [BT_size]; omega)).mono ?_
  rintro e w' ⟨rfl, rfl⟩
  have h1 : Lib.hasSuffix l t = false := by
    rw [Bool.eq_false_iff]
    intro hh
    unfold Lib.hasSuffix at hh
    rw [List.isSuffixOf_iff_suffix] at hh
    obtain ⟨a, ha⟩ := hh
    exact h a ha.symm
  refine ⟨?_, rfl⟩
  rw [BT_data, BT_data]
  unfold Lib.trimSuffix
  rw [h1]
  simp [BT]
theorem cat_run {a b : Bs} (h : a.length + b.length ≤ 9223372036854775807) (W : World) : (Op.stringOp .add (BT a) (BT b)).run Tryz.prog W = .ok (.string (BT (a ++ b))) W := by
  rw [run_string_add_sum W _ _ (by rw [BT_size, BT_size]; omega), BT_append]
set_option maxRecDepth 100000 in
set_option maxHeartbeats 8000000 in
theorem end_any {l : Bs} (hl : l.length ≤ 4000000) {w : World} (hw : Laid w) :
    Calls Tryz.prog 10 #[.string (BT l)] w fun e w' => e = .returned (.tuple (endA l)) ∧ Turn Nn w w' := by
  have HW := Lib.hid hw
  have HL := Lib.hid hl
  obtain ⟨E, hE⟩ : ∃ E, endA l = E := ⟨_, rfl⟩
  rw [hE]
  have HE := Lib.hid hE
  clear hw hE hl
  obtain ⟨M, hM⟩ : ∃ M, BT l = M := ⟨_, rfl⟩
  have HM := Lib.hid hM
  rw [hM]
  clear hM
  go_enter Tryz.func10, Tryz.ntmps10
  go_wp2_with fail
  go_loopw [5, 6, 7, 8, 11] (fun _ _ _ i _ wr => ∃ k : Nat, k ≤ 2 ∧ i = .int .i64 k ∧ (∀ c j, j < k → endL l ≠ some (c, j)) ∧ Turn Nn w wr) (fun _ _ _ i _ _ => 2 - (intOf i).toNat)
  case atStart => exact ⟨0, by omega, rfl, fun c j hj => by omega, Turn.refl _ _⟩
  case round =>
    obtain ⟨k, hk, rfl, hno, ht⟩ := hrel
    have HNO := Lib.hid hno
    have HT := Lib.hid ht
    clear hno ht
    by_cases hlt : k < 2
    · have hi : Lib.itoa (k : Int) = [UInt8.ofNat (48 + k)] := by rw [itoa_nat, decDigits_small (by omega)]
      have HI := Lib.hid (itoa_any (n := (k : Int)) ⟨by omega, by omega⟩ (HW.out.turn HT.out))
      rw [hi] at HI
      obtain ⟨t, htt⟩ : ∃ t, [58, UInt8.ofNat (48 + k)] = t := ⟨_, rfl⟩
      have hcat : ∀ W : World, (Op.stringOp .add ⟨#[58]⟩ (BT [UInt8.ofNat (48 + k)])).run Tryz.prog W = .ok (.string (BT t)) W := fun W => by
        rw [← htt]; exact cat_run (a := [58]) (b := [UInt8.ofNat (48 + k)]) (by simp) W
      have hend : ∀ c, l = c ++ t → chanL c = true → endL l = some (c, k) := by
        intro c hc hcc
        refine endL_some.2 ⟨hcc, ?_⟩
        have : k = 0 ∨ k = 1 := by omega
        rcases this with rfl | rfl
        · exact .inl ⟨rfl, by rw [hc, ← htt]; rfl⟩
        · exact .inr ⟨rfl, by rw [hc, ← htt]; rfl⟩
      have hend2 : ∀ c, endL l = some (c, k) → l = c ++ t ∧ chanL c = true := by
        intro c hc
        obtain ⟨h1, h2⟩ := endL_some.1 hc
        refine ⟨?_, h1⟩
        have : k = 0 ∨ k = 1 := by omega
        rcases this with rfl | rfl
        · rcases h2 with ⟨_, h2⟩ | ⟨h3, _⟩
          · rw [h2, ← htt]; rfl
          · omega
        · rcases h2 with ⟨h3, _⟩ | ⟨_, h2⟩
          · omega
          · rw [h2, ← htt]; rfl
      obtain ⟨S, hS⟩ : ∃ S, BT [UInt8.ofNat (48 + k)] = S := ⟨_, rfl⟩
      obtain ⟨T, hTT⟩ : ∃ T, BT t = T := ⟨_, rfl⟩
      rw [hS] at HI
      simp only [hS, hTT] at hcat
      by_cases hs : ∃ a, l = a ++ t
      · obtain ⟨a, ha⟩ := hs
        have hal : a.length ≤ 4000000 := by have := HL.out; rw [ha] at this; simp at this; omega
        have HC := fun w => Lib.hid (cutSuf_yes ha HL.out w)
        simp only [HM.out, hTT] at HC
        have HCH := fun w (h : Laid w) => Lib.hid (chan_any hal h)
        obtain ⟨y, hy⟩ : ∃ y, chanL a = y := ⟨_, rfl⟩
        simp only [hy] at HCH
        cases y with
        | true =>
          have hE2 := endA_some (hend a ha hy)
          rw [HE.out] at hE2
          subst hE2
          clear hend hend2 hy ha htt hi hS hTT
          go_wp2_with fail
          refine HI.out.mono ?_
          rintro e w2 ⟨rfl, t2⟩
          have T2 := Lib.hid (HT.out.trans t2)
          clear t2
          go_wp2_with fail
          refine (HC _).out.mono ?_
          rintro e w3 ⟨rfl, rfl⟩
          go_wp2_with fail
          refine (HCH _ (HW.out.turn T2.out)).out.mono ?_
          rintro e w4 ⟨rfl, t4⟩
          have T4 := Lib.hid (T2.out.trans t4)
          clear t4
          go_wp2_with fail
          go_ret3
          exact ⟨rfl, T4.out⟩
        | false =>
          have HNO2 : Hid (∀ c j, j < k + 1 → endL l ≠ some (c, j)) := Lib.hid (by
            intro c j hj he
            by_cases hjk : j = k
            · subst hjk
              obtain ⟨h1, h2⟩ := hend2 c he
              rw [ha] at h1
              rw [List.append_cancel_right h1, h2] at hy; cases hy
            · exact HNO.out c j (by omega) he)
          clear hend hend2 hy ha htt hi hS hTT
          go_wp2_with fail
          refine HI.out.mono ?_
          rintro e w2 ⟨rfl, t2⟩
          have T2 := Lib.hid (HT.out.trans t2)
          clear t2
          go_wp2_with fail
          refine (HC _).out.mono ?_
          rintro e w3 ⟨rfl, rfl⟩
          go_wp2_with fail
          refine (HCH _ (HW.out.turn T2.out)).out.mono ?_
          rintro e w4 ⟨rfl, t4⟩
          have T4 := Lib.hid (T2.out.trans t4)
          clear t4
          go_wp2_with fail
          go_roundw
          case rel => exact ⟨k + 1, by omega, by go_num, HNO2.out, T4.out⟩
          case measure => simp [intOf]; omega
      · have HC := fun w => Lib.hid (cutSuf_no (l := l) (t := t) (fun a h => hs ⟨a, h⟩) HL.out w)
        simp only [HM.out, hTT] at HC
        have HNO2 : Hid (∀ c j, j < k + 1 → endL l ≠ some (c, j)) := Lib.hid (by
          intro c j hj he
          by_cases hjk : j = k
          · subst hjk
            exact hs ⟨c, (hend2 c he).1⟩
          · exact HNO.out c j (by omega) he)
        clear hend hend2 htt hi hs hS hTT
        go_wp2_with fail
        refine HI.out.mono ?_
        rintro e w2 ⟨rfl, t2⟩
        have T2 := Lib.hid (HT.out.trans t2)
        clear t2
        go_wp2_with fail
        refine (HC _).out.mono ?_
        rintro e w3 ⟨rfl, rfl⟩
        go_wp2_with fail
        go_roundw
        case rel => exact ⟨k + 1, by omega, by go_num, HNO2.out, T2.out⟩
        case measure => simp [intOf]; omega
    · have hnn : endL l = none := by
        cases he : endL l with
        | none => rfl
        | some p =>
          exfalso
          have h1 := (endL_some (c := p.1) (n := p.2)).1 he
          exact HNO.out p.1 p.2 (by omega) he
      have hE2 := endA_none hnn
      rw [HE.out] at hE2
      subst hE2
      clear hnn
      go_wp2_with fail
      go_ret3
      exact ⟨rfl, HT.out⟩
end
section
open Go.RowKit Go.Shelf

/-- A whole number, or given up. -/
def WholeP (w : World) (x : Option Int) (e : Ending) (w' : World) : Prop :=
  (match x with
    | some n => e = .returned (.int .i64 n)
    | none => e = badE) ∧ Turn Nn w w'
set_option maxRecDepth 100000 in
set_option maxHeartbeats 8000000 in
theorem whole_any {s : Bs} (hl : s.length ≤ 4000000) {w : World} (hw : Laid w) : Calls Tryz.prog 50 #[.string (BT s)] w (WholeP w (wholeL s)) := by
  have HW := Lib.hid hw
  obtain ⟨M, hM⟩ : ∃ M, BT s = M := ⟨_, rfl⟩
  have hMt : M.toList = s := by rw [← hM]; exact BT_toList s
  have hMd : M.data.toList = s := by rw [← hM]; exact BT_data s
  have hMs : M.size = s.length := by rw [← hM]; exact BT_size s
  rw [hM]
  cases ha : Lib.atoiAll s with
  | ok v =>
    have hp : Lib.parseIntB 64 M.data.toList = .ok v := by rw [hMd, Lib.parseIntB_64]; exact ha
    have HP := Lib.hid (Tryz.strconv_ParseInt_10_at64_ok M (by omega) v hp w)
    have hv : Int64 v := atoi_int ha
    have HF := fun w (h : Laid w) => Lib.hid (format_any hv h)
    have hwl : wholeL s = if Lib.itoa v = s then some v else none := by unfold wholeL; rw [ha]
    rw [hwl]
    obtain ⟨F, hF⟩ : ∃ F, BT (Lib.itoa v) = F := ⟨_, rfl⟩
    have hFt : F.toList = Lib.itoa v := by rw [← hF]; exact BT_toList _
    simp only [hF] at HF
    by_cases he : Lib.itoa v = s
    · rw [if_pos he]
      have hE : F.toList = M.toList := by rw [hFt, hMt, he]
      have hE2 : (F.toList == M.toList) = true := by rw [hE]; simp
      clear hM hMt hMd hMs hp hwl hF hFt he ha hE hw hl
      go_enter Tryz.func50, Tryz.ntmps50
      go_wp2_with fail
      refine HP.out.mono ?_
      rintro e w2 ⟨rfl, hw2⟩
      have T2 : Hid (Turn Nn w w2) := Lib.hid (by
        rcases hw2 with rfl | ⟨t, rfl⟩
        · exact Turn.refl _ _
        · exact Turn.of_below (Lib.bytesWorld_below _ _ _))
      clear hw2
      go_wp2_with fail
      refine (HF _ (HW.out.turn T2.out)).out.mono ?_
      rintro e w3 ⟨rfl, t3⟩
      have T3 := Lib.hid (T2.out.trans t3)
      clear t3
      go_wp2_with fail
      refine (need_yes _).mono ?_
      rintro e w4 ⟨rfl, rfl⟩
      go_wp2_with fail
      go_ret
      exact ⟨rfl, T3.out⟩
    · rw [if_neg he]
      have hE2 : (F.toList == M.toList) = false := by rw [hFt, hMt, beq_eq_false_iff_ne]; exact he
      clear hM hMt hMd hMs hp hwl hF hFt he ha hw hl
      go_enter Tryz.func50, Tryz.ntmps50
      go_wp2_with fail
      refine HP.out.mono ?_
      rintro e w2 ⟨rfl, hw2⟩
      have T2 : Hid (Turn Nn w w2) := Lib.hid (by
        rcases hw2 with rfl | ⟨t, rfl⟩
        · exact Turn.refl _ _
        · exact Turn.of_below (Lib.bytesWorld_below _ _ _))
      clear hw2
      go_wp2_with fail
      refine (HF _ (HW.out.turn T2.out)).out.mono ?_
      rintro e w3 ⟨rfl, t3⟩
      have T3 := Lib.hid (T2.out.trans t3)
      clear t3
      go_wp2_with fail
      refine (need_no _).mono ?_
      rintro e w4 ⟨rfl, rfl⟩
      exact ⟨rfl, rfl, T3.out⟩
  | range =>
    have hp : Lib.parseIntB 64 M.data.toList = .range := by rw [hMd, Lib.parseIntB_64]; exact ha
    obtain ⟨te, pe, hv⟩ := hw.rng
    have HP := Lib.hid (Tryz.strconv_ParseInt_10_at64_range M (by omega) hp _ w hv (.inr ⟨te, pe, rfl⟩))
    have hwl : wholeL s = none := by unfold wholeL; rw [ha]
    rw [hwl]
    clear hM hMt hMd hMs hp hwl ha hw hl hv
    go_enter Tryz.func50, Tryz.ntmps50
    go_wp2_with fail
    refine HP.out.mono ?_
    rintro e w2 ⟨N, rfl, hN, _, hb⟩
    have T2 := Lib.hid (Turn.of_below hb)
    clear hb hN
    go_wp2_with fail
    refine (need_no _).mono ?_
    rintro e w4 ⟨rfl, rfl⟩
    exact ⟨rfl, rfl, T2.out⟩
  | _ =>
    have h1 : ∀ v, Lib.parseIntB 64 M.data.toList ≠ .ok v := fun v => by rw [hMd, Lib.parseIntB_64, ha]; intro h; cases h
    have h2 : Lib.parseIntB 64 M.data.toList ≠ .range := by rw [hMd, Lib.parseIntB_64, ha]; intro h; cases h
    obtain ⟨te, pe, hv⟩ := hw.syn
    have HP := Lib.hid (Tryz.strconv_ParseInt_10_at64_other M (by omega) h1 h2 _ w hv (.inr ⟨te, pe, rfl⟩))
    have hwl : wholeL s = none := by unfold wholeL; rw [ha]
    rw [hwl]
    clear hM hMt hMd hMs h1 h2 hwl ha hw hl hv
    go_enter Tryz.func50, Tryz.ntmps50
    go_wp2_with fail
    refine HP.out.mono ?_
    rintro e w2 ⟨N, rfl, hN, _, hb⟩
    have T2 := Lib.hid (Turn.of_below hb)
    clear hb hN
    go_wp2_with fail
    refine (need_no _).mono ?_
    rintro e w4 ⟨rfl, rfl⟩
    exact ⟨rfl, rfl, T2.out⟩
theorem textD_off {b0 b1 b2 : Nat} {u : FrameMode} {w : World} (h0 : w.heap[b0]? = some (.cells #[.bool false] 4)) :
    CallsD Tryz.prog 39 #[.pointer (some ⟨b0, 0, none⟩), .pointer (some ⟨b1, 0, none⟩), .pointer (some ⟨b2, 0, none⟩)] u w fun e u' w' => u' = u ∧ (e = .returned (.tuple #[]) ∧ w' = w) := by
  have c0 : w.cell? ⟨b0, 0, none⟩ = some (.bool false) := cell_blk h0
  clear h0
  go_enter_d Tryz.func39, Tryz.ntmps39
  go_wp2_with fail
  go_end0
  exact ⟨rfl, rfl⟩
theorem textD_on {b0 b1 b2 : Nat} {u : FrameMode} {w : World} {s : ByteArray} {c : Int} (h0 : w.heap[b0]? = some (.cells #[.bool true] 4)) (h1 : w.heap[b1]? = some (.cells #[.string s] 9)) (h2 : w.heap[b2]? = some (.cells #[.int .i64 c] 37)) (hne : b1 ≠ b2) :
    CallsD Tryz.prog 39 #[.pointer (some ⟨b0, 0, none⟩), .pointer (some ⟨b1, 0, none⟩), .pointer (some ⟨b2, 0, none⟩)] u w fun e u' w' => u' = u ∧ (e = .returned (.tuple #[]) ∧ w' = (w.setCell ⟨b1, 0, none⟩ (.string ⟨#[]⟩)).setCell ⟨b2, 0, none⟩ (.int .i64 2)) := by
  have c0 : w.cell? ⟨b0, 0, none⟩ = some (.bool true) := cell_blk h0
  have c1 : w.cell? ⟨b1, 0, none⟩ = some (.string s) := cell_blk h1
  have z1 := frozen_blk (o := 0) h1
  have h2' : (w.setCell ⟨b1, 0, none⟩ (.string ⟨#[]⟩)).heap[b2]? = some (.cells #[.int .i64 c] 37) := blk_set h2 (fun e => hne e.symm)
  have c2 : (w.setCell ⟨b1, 0, none⟩ (.string ⟨#[]⟩)).cell? ⟨b2, 0, none⟩ = some (.int .i64 c) := cell_blk h2'
  have z2 := frozen_blk (o := 0) h2'
  clear h0 h1 h2 h2'
  go_enter_d Tryz.func39, Tryz.ntmps39
  go_wp2_with fail
  go_end0
  exact ⟨rfl, rfl⟩
/-- An event's cells. -/
def evC (e : EventD) : Array Value := #[.int .i64 e.kind, .int .i64 e.slot, .string (BT e.actor), .int .i64 e.pc, .string (BT e.chan), .int .i64 e.side, .int .i64 e.tag, .int .i64 e.word, .string (BT e.name)]
def zeroE : EventD := ⟨0, 0, [], 0, [], 0, 0, 0, []⟩
end
end Go.Proofs.YtpbjblbeepbklaaGreatDoor
