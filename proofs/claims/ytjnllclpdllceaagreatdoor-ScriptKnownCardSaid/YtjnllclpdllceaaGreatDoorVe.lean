/- Print, where all may be. -/
import Derived.Test.YtjnllclpdllceaaGreatDoorVd
import Derived.Deep.DeepCutAuto
namespace Go.Proofs.YtjnllclpdllceaaGreatDoor
set_option linter.unusedSimpArgs false
set_option linter.unusedVariables false
open Go.RowKit Go.Shelf

def headN (s : ScriptD) : Bs := wMachine ++ 32 :: Lib.itoa s.chans ++ 32 :: Lib.itoa s.actors ++ 32 :: Lib.itoa s.cap

theorem itoa_short {n : Int} (h0 : 0 ≤ n) (h1 : n < 1000000) : (Lib.itoa n).length ≤ 9 := by
  obtain ⟨k, rfl⟩ : ∃ k : Nat, n = k := ⟨n.toNat, by omega⟩
  rw [itoa_nat, Lib.decDigits_length]
  exact nDigits_of_lt (by omega)

theorem words3' {a c d : Int} (ha : 0 ≤ a ∧ a < 1000000) (hc : 0 ≤ c ∧ c < 1000000) (hd : 0 ≤ d ∧ d < 1000000) {w : World} (hl : Laid w) (p : Nat) (h0 : w.cell? ⟨p, 0, none⟩ = some (.int .i64 a)) (h1 : w.cell? ⟨p, 1, none⟩ = some (.int .i64 c)) (h2 : w.cell? ⟨p, 2, none⟩ = some (.int .i64 d)) :
    Calls Tryz.prog 24 #[.string ⟨#[109, 97, 99, 104, 105, 110, 101]⟩, .slice (some ⟨p, 0, none⟩) 3 3] w fun e w' => e = .returned (.string (BT (wMachine ++ 32 :: Lib.itoa a ++ 32 :: Lib.itoa c ++ 32 :: Lib.itoa d))) ∧ Turn Nn w w' := by
  have l1 := itoa_short ha.1 ha.2
  have l2 := itoa_short hc.1 hc.2
  have l3 := itoa_short hd.1 hd.2
  refine (words3 ⟨#[109, 97, 99, 104, 105, 110, 101]⟩ _ _ _ ⟨by omega, by omega⟩ ⟨by omega, by omega⟩ ⟨by omega, by omega⟩ rfl rfl rfl hl p h0 h1 h2 (by decide) (by show (Lib.itoa a).length ≤ _; omega) (by show (Lib.itoa c).length ≤ _; omega) (by show (Lib.itoa d).length ≤ _; omega)).mono ?_
  rintro e w' ⟨rfl, t⟩
  refine ⟨?_, t⟩
  have key : BT wMachine ++ (BT [32] ++ BT (Lib.itoa a)) ++ (BT [32] ++ BT (Lib.itoa c)) ++ (BT [32] ++ BT (Lib.itoa d)) = BT (wMachine ++ 32 :: Lib.itoa a ++ 32 :: Lib.itoa c ++ 32 :: Lib.itoa d) := by
    simp only [BT_append]
    simp
  rw [← key]
  rfl

theorem badT_at {ts : List TurnD} (h : badT ts = false) (k : Nat) (hk : k < ts.length) : turnOk ts[k] = true := by
  cases hh : turnOk ts[k] with
  | true => rfl
  | false => rw [badT_some hk hh] at h; cases h

theorem configOk_le {a b c : Int} (h : configOk a b c = true) : (1 ≤ a ∧ a ≤ 64) ∧ (1 ≤ b ∧ b ≤ 32) ∧ (1 ≤ c ∧ c ≤ 16) := by
  unfold configOk at h
  simp only [decide_eq_true_eq] at h
  omega

theorem turnOk_cases {t : TurnD} (h : turnOk t = true) : (t.kind = 0 ∧ 0 ≤ t.slot ∧ t.slot ≤ 99 ∧ 1 ≤ t.times ∧ t.times ≤ 1000) ∨ (t.kind = 1 ∧ t.slot = 0 ∧ 1 ≤ t.times ∧ t.times ≤ 1000) ∨ (t.kind = 2 ∧ t.slot = 0 ∧ t.times = 0) ∨ (t.kind = 3 ∧ t.slot = 0 ∧ t.times = 0) := by
  unfold turnOk at h
  simp only [Bool.or_eq_true, decide_eq_true_eq] at h
  omega

theorem PrS.ne {w W : World} {b k : Nat} {cs : Array Value} {l : Bs} (h : PrS w b cs l W) {c : Array Value} {ty : TypeId} {d : Nat × Nat} (hk : W.heap[k]? = some (.cells c ty d)) (ht : ty ≠ 66) : k ≠ b := by
  rintro rfl
  rcases h.bld with ⟨_, v, h2, _⟩ | ⟨_, v, h2, _⟩
  all_goals
    rw [hk] at h2
    cases h2
    exact ht rfl

theorem flat_step {s : ScriptD} {L0 : Bs} {j : Nat} (h : j < s.turns.length) : (L0 ++ (s.turns.take (j + 1)).flatMap fun t => 10 :: lineT t) = (L0 ++ ((s.turns.take j).flatMap fun t => 10 :: lineT t)) ++ 10 :: lineT s.turns[j] := by
  rw [List.take_succ_eq_append_getElem h, List.flatMap_append, List.append_assoc]
  simp

theorem lineT_len {t : TurnD} (h : turnOk t = true) : (lineT t).length ≤ 40 := by
  unfold turnOk at h
  simp only [Bool.or_eq_true, decide_eq_true_eq] at h
  have l1 : 0 ≤ t.slot ∧ t.slot < 1000000 := by omega
  have l2 : 0 ≤ t.times ∧ t.times < 1000000 := by omega
  have i1 := itoa_short l1.1 l1.2
  have i2 := itoa_short l2.1 l2.2
  unfold lineT
  split
  · simp [wPick]; omega
  · split
    · simp [wRound]; omega
    · split <;> simp [wShow, wRows]

theorem lines_len {ts : List TurnD} (h : ∀ k (hk : k < ts.length), turnOk ts[k] = true) : ∀ j, ((ts.take j).flatMap fun t => 10 :: lineT t).length ≤ 41 * j
  | 0 => by simp
  | j + 1 => by
    have ih := lines_len h j
    by_cases hj : j < ts.length
    · rw [List.take_succ_eq_append_getElem hj, List.flatMap_append, List.length_append]
      have := lineT_len (h j hj)
      simp at ih ⊢; omega
    · rw [List.take_of_length_le (by omega)]
      rw [List.take_of_length_le (by omega)] at ih
      omega

set_option maxRecDepth 100000 in
set_option maxHeartbeats 32000000 in
theorem print_ok_false {s : ScriptD} {v : Value} {w : World} (hlw : Laid w) (htw : s.twin = false) (h : configOk s.chans s.actors s.cap = true) (hv : TSl w v s.turns) (hn : s.turns.length ≤ 4096) (hm : s.mod.length ≤ 65536) (hb : badT s.turns = false) :
    Calls Tryz.prog 8 #[.agg (scriptA s v)] w (PrintPost w s) := by
  have HP : Hid (printD s = (textT s, 0)) := Lib.hid (by unfold printD; rw [if_neg (noBad h hb), if_neg (by omega)])
  have HC := Lib.hid (config_any s.chans s.actors s.cap (w.alloc (.cells (scriptA s v) 26)))
  rw [h] at HC
  obtain ⟨pa, cap, hsh⟩ := hv.shape
  obtain ⟨M, hM⟩ : ∃ M, BT s.mod = M := ⟨_, rfl⟩
  have hms : M.size = s.mod.length := by rw [← hM]; rfl
  obtain ⟨N, hN⟩ : ∃ N, s.turns.length = N := ⟨_, rfl⟩
  rw [← hms] at hm
  rw [hN] at hsh hn
  simp only [scriptA] at HC ⊢
  rw [hM, htw] at HC ⊢
  have HV := Lib.hid hv
  have HB := Lib.hid hb
  have HN := Lib.hid hN
  have HM := Lib.hid hM
  have HMS := Lib.hid hms
  have HL := Lib.hid hlw
  have HTW := Lib.hid htw
  have HCF := Lib.hid (configOk_le h)
  have key : ∀ v', v = v' → Calls Tryz.prog 8 #[.agg #[.int .i64 s.chans, .int .i64 s.actors, .int .i64 s.cap, .bool false, .string M, v']] w (PrintPost w s) → Calls Tryz.prog 8 #[.agg #[.int .i64 s.chans, .int .i64 s.actors, .int .i64 s.cap, .bool false, .string M, v]] w (PrintPost w s) := fun v' e c => by rw [e]; exact c
  refine key _ hsh ?_
  rw [hsh] at HC HV
  clear h hv hb key hsh hM hms hN hlw htw
  go_enter Tryz.func8, Tryz.ntmps8
  go_wp2_with fail
  refine HC.out.mono ?_
  rintro e w' ⟨rfl, hw⟩
  have HT : Hid (Turn Nn (w.alloc (.cells #[.int .i64 s.chans, .int .i64 s.actors, .int .i64 s.cap, .bool false, .string M, .slice pa N cap] 26)) w') := by rw [hw]; exact Lib.hid ((Turn.refl Nn _).alloc _)
  have c3 := cell_turn HT.out (cell_blk (o := 5) (World.alloc_heap_new w _))
  clear hw
  go_wp2_with fail
  refine (contains_any ((HV.out.turn ((Turn.refl Nn w).alloc _)).turn HT.out) (by rw [HN.out]; omega)).mono ?_
  rintro e w2 ⟨rfl, ht2⟩
  have HBX := Lib.hid (((HT.out.trans ht2).block _ (heap_lt (World.alloc_heap_new w _)) (fun h => h)).trans (World.alloc_heap_new w _))
  have c0 := cell_blk (o := 0) HBX.out
  have c1 := cell_blk (o := 1) HBX.out
  have c1a := cell_blk (o := 2) HBX.out
  have c2 := cell_blk (o := 4) HBX.out
  have c3 := cell_blk (o := 5) HBX.out
  simp only [List.getElem?_toArray, List.getElem?_cons_succ, List.getElem?_cons_zero] at c0 c1 c1a c2 c3
  have HT2 := Lib.hid ((((Turn.refl Nn w).alloc _).trans HT.out).trans ht2)
  have HHL := Lib.hid (heap_lt HBX.out)
  have hlt2 : w.heap.size < w2.heap.size := HHL.out
  rw [HB.out]
  clear ht2 HC HT
  go_wp2_with fail
  generalize hw3 : World.alloc (World.alloc w2 _) _ = w3
  obtain ⟨b1, b2, t3⟩ := alloc2 hw3
  have q0 := cell_blk (o := 0) b2
  have q1 := cell_blk (o := 1) b2
  have q2 := cell_blk (o := 2) b2
  clear hlt2
  have HT3 := Lib.hid (HT2.out.trans t3)
  have P3 : Hid (PrS w w2.heap.size #[.int .i64 s.chans, .int .i64 s.actors, .int .i64 s.cap, .bool false, .string M, .slice pa N cap] [] w3) := Lib.hid ⟨.inl ⟨Nat.le_refl _, .slice none 0 0, b1, World.ownsRow_nil w3 _ 5 1, by simp [Value.ownBlock]⟩, (t3.block _ HHL.out (fun h => h)).trans HBX.out, HT3.out.below, HHL.out, heap_lt b1⟩
  clear hw3 b1 b2 t3 c0 c1 c1a c2 c3
  refine (words3' (by have := HCF.out; omega) (by have := HCF.out; omega) (by have := HCF.out; omega) (HL.out.turn HT3.out) (w2.heap.size + 1) q0 q1 q2).mono ?_
  rintro e w4 ⟨rfl, t4⟩
  have P4 := Lib.hid (P3.out.turn t4)
  obtain ⟨hd, hhd⟩ : ∃ hd, wMachine ++ 32 :: Lib.itoa s.chans ++ 32 :: Lib.itoa s.actors ++ 32 :: Lib.itoa s.cap = hd := ⟨_, rfl⟩
  have HHD : Hid (headN s = hd) := Lib.hid hhd
  have hdl : hd.length ≤ 100 := by
    rw [← hhd]
    have := HCF.out
    have l1 := itoa_short (n := s.chans) (by omega) (by omega)
    have l2 := itoa_short (n := s.actors) (by omega) (by omega)
    have l3 := itoa_short (n := s.cap) (by omega) (by omega)
    simp [wMachine]; omega
  rw [hhd]
  clear t4 q0 q1 q2 hhd P3
  go_wp2_with fail
  refine (writeS P4.out (by simp) hd (by omega)).mono ?_
  rintro e w5 ⟨rfl, p5, _⟩
  rw [List.nil_append] at p5
  have P5 := Lib.hid p5
  clear p5 P4
  have cb := cell_blk (o := 3) P5.out.box
  have c2 := cell_blk (o := 4) P5.out.box
  simp only [List.getElem?_toArray, List.getElem?_cons_succ, List.getElem?_cons_zero] at cb c2
  obtain ⟨w6, hw6⟩ : ∃ w6, w5 = w6 := ⟨_, rfl⟩
  rw [hw6] at P5 cb c2 ⊢
  have P6 := P5
  clear P5 hw6
  have HHT : Hid (headT s = hd) := Lib.hid (by unfold headT; rw [HTW.out, ← HHD.out]; simp [headN])
  obtain ⟨hx, hhx⟩ : ∃ hx, hd = hx := ⟨_, rfl⟩
  have hdl : hx.length ≤ 200 := by rw [← hhx]; omega
  rw [hhx] at P6 HHT
  clear hhx
  go_wp2_with fail
  go_loopw [6, 48] (fun _ i wr => ∃ k : Nat, k ≤ M.size ∧ i = .int .i64 k ∧ PrS w w2.heap.size #[.int .i64 s.chans, .int .i64 s.actors, .int .i64 s.cap, .bool false, .string M, .slice pa N cap] (hx ++ bytesT 0 (s.mod.take k)) wr) (fun _ i _ => M.size - (intOf i).toNat)
  case atStart => exact ⟨0, by omega, rfl, by rw [List.take_zero, bytesT, List.append_nil]; exact P6.out⟩
  case round =>
    obtain ⟨k, hk, rfl, hp⟩ := hrel
    have PR := Lib.hid hp
    clear hp P6 c2
    have c2 := cell_blk (o := 4) PR.out.box
    have c3 := cell_blk (o := 5) PR.out.box
    simp only [List.getElem?_toArray, List.getElem?_cons_succ, List.getElem?_cons_zero] at c2 c3
    have hlk := bytesT_length (s.mod.take k) 0
    have hlk2 : (s.mod.take k).length ≤ k := List.length_take_le _ _
    by_cases hlt : k < M.size
    · have hkm : k < s.mod.length := by rw [← HMS.out]; exact hlt
      have ST := Lib.hid (bytesT_step hkm)
      obtain ⟨L, hL⟩ : ∃ L, hx ++ bytesT 0 (s.mod.take k) = L := ⟨_, rfl⟩
      have hLl : L.length ≤ 1000000 := by rw [← hL, List.length_append]; omega
      have HLE := Lib.hid hL
      rw [hL] at PR
      have q1 : M[k] = s.mod[k] := by have := HM.out; subst this; rfl
      obtain ⟨c, hc⟩ : ∃ c, s.mod[k] = c := ⟨_, rfl⟩
      have hmk := q1.trans hc
      obtain ⟨u1, hu1⟩ : ∃ u, Go.Proofs.YtjnllclpdllceaaGreatDoor.hx (c.toNat / 16) = u := ⟨_, rfl⟩
      obtain ⟨u2, hu2⟩ : ∃ u, Go.Proofs.YtjnllclpdllceaaGreatDoor.hx (c.toNat % 16) = u := ⟨_, rfl⟩
      have hi1 : ∀ w, (Instr.index 9 (.string ⟨#[48, 49, 50, 51, 52, 53, 54, 55, 56, 57, 97, 98, 99, 100, 101, 102]⟩) (.int .u8 ((c.toNat : Int) / 16))).run Tryz.prog w = .ok (.int .u8 (u1.toNat : Int)) w := fun w => by
        rw [← hu1, show ((c.toNat : Int) / 16) = ((c.toNat / 16 : Nat) : Int) by omega]
        exact halves_at (by have := c.toNat_lt; omega) w
      have hi2 : ∀ w, (Instr.index 9 (.string ⟨#[48, 49, 50, 51, 52, 53, 54, 55, 56, 57, 97, 98, 99, 100, 101, 102]⟩) (.int .u8 ((c.toNat : Int) % 16))).run Tryz.prog w = .ok (.int .u8 (u2.toNat : Int)) w := fun w => by
        rw [← hu2, show ((c.toNat : Int) % 16) = ((c.toNat % 16 : Nat) : Int) by omega]
        exact halves_at (by have := c.toNat_lt; omega) w
      have HX2 : Hid (hx2 c = [u1, u2]) := Lib.hid (by rw [← hu1, ← hu2]; rfl)
      clear hu1 hu2
      rw [hc] at ST
      have hcl := c.toNat_lt
      have z1 : (0 : Int) ≤ (k : Int) := by omega
      have z2 : (k : Int) < (M.size : Int) := by omega
      clear hL q1 hc hkm hlk hlk2
      by_cases hk24 : k % 24 = 0
      · have h24 : ((k : Int) % 24 == 0) = true := by rw [beq_iff_eq]; omega
        have HK24 := Lib.hid hk24
        clear hk24
        go_wp2_with fail
        refine (writeS PR.out (by omega) [10, 98, 121, 116, 101, 115, 32] (by simp)).mono ?_
        rintro e w7 ⟨rfl, p7, _⟩
        have P7 := Lib.hid p7
        clear p7 PR c2 c3
        have c2 := cell_blk (o := 4) P7.out.box
        simp only [List.getElem?_toArray, List.getElem?_cons_succ, List.getElem?_cons_zero] at c2
        go_wp2_with fail
        refine (writeB P7.out (by simp; omega) u1).mono ?_
        rintro e w8 ⟨rfl, p8, _⟩
        have P8 := Lib.hid p8
        clear p8 P7 c2
        have c2 := cell_blk (o := 4) P8.out.box
        simp only [List.getElem?_toArray, List.getElem?_cons_succ, List.getElem?_cons_zero] at c2
        go_wp2_with fail
        refine (writeB P8.out (by simp; omega) u2).mono ?_
        rintro e w9 ⟨rfl, p9, _⟩
        have P9 := Lib.hid p9
        clear p9 P8 c2 hi1 hi2 hmk h24 c3 z1 z2 hcl hLl
        go_wp2_with fail
        go_roundw
        case rel =>
          refine ⟨k + 1, by omega, by go_num, ?_⟩
          have e1 := ST.out
          rw [HX2.out] at e1
          rw [e1, if_pos HK24.out, ← List.append_assoc, HLE.out]
          have := P9.out
          simpa [wBytes] using this
        case measure => simp [intOf]; omega
      · have h24 : ((k : Int) % 24 == 0) = false := by rw [beq_eq_false_iff_ne]; omega
        have HK24 := Lib.hid hk24
        clear hk24
        go_wp2_with fail
        refine (writeB PR.out (by omega) u1).mono ?_
        rintro e w8 ⟨rfl, p8, _⟩
        have P8 := Lib.hid p8
        clear p8 PR c2
        have c2 := cell_blk (o := 4) P8.out.box
        simp only [List.getElem?_toArray, List.getElem?_cons_succ, List.getElem?_cons_zero] at c2
        go_wp2_with fail
        refine (writeB P8.out (by simp; omega) u2).mono ?_
        rintro e w9 ⟨rfl, p9, _⟩
        have P9 := Lib.hid p9
        clear p9 P8 c2 hi1 hi2 hmk h24 c3 z1 z2 hcl hLl
        go_wp2_with fail
        go_roundw
        case rel =>
          refine ⟨k + 1, by omega, by go_num, ?_⟩
          have e1 := ST.out
          rw [HX2.out] at e1
          rw [e1, if_neg HK24.out, ← List.append_assoc, HLE.out]
          have := P9.out
          simpa [wBytes] using this
        case measure => simp [intOf]; omega
    · have hkM : k = M.size := by omega
      have PQ : Hid (PrS w w2.heap.size #[.int .i64 s.chans, .int .i64 s.actors, .int .i64 s.cap, .bool false, .string M, .slice pa N cap] (hx ++ bytesT 0 s.mod) wr) := Lib.hid (by
        have := PR.out
        rw [List.take_of_length_le (by rw [← HMS.out]; omega)] at this
        exact this)
      have hlm := bytesT_length s.mod 0
      have hml : s.mod.length ≤ 65536 := by rw [← HMS.out]; exact hm
      obtain ⟨L0, hL0⟩ : ∃ L, hx ++ bytesT 0 s.mod = L := ⟨_, rfl⟩
      have hL0l : L0.length ≤ 1000000 := by rw [← hL0, List.length_append]; omega
      have HL0 := Lib.hid hL0
      rw [hL0] at PQ
      clear PR hlk hlk2 hlm hml hL0 c2 hkM
      go_wp2_with fail
      go_loopw [73] (fun i wq => ∃ j : Nat, j ≤ N ∧ i = .int .i64 j ∧ PrS w w2.heap.size #[.int .i64 s.chans, .int .i64 s.actors, .int .i64 s.cap, .bool false, .string M, .slice pa N cap] (L0 ++ (s.turns.take j).flatMap fun t => 10 :: lineT t) wq) (fun i _ => N - (intOf i).toNat)
      case atStart => exact ⟨0, by omega, rfl, by simpa using PQ.out⟩
      case round =>
        obtain ⟨j, hj, rfl, hp⟩ := hrel
        have PT := Lib.hid hp
        clear hp PQ c3
        have c3 := cell_blk (o := 5) PT.out.box
        simp only [List.getElem?_toArray, List.getElem?_cons_succ, List.getElem?_cons_zero] at c3
        by_cases hjn : j < N
        · have hjt : j < s.turns.length := by rw [HN.out]; exact hjn
          have hll := lines_len (badT_at HB.out) j
          have STEP := Lib.hid (flat_step (s := s) (L0 := L0) hjt)
          have hok := badT_at HB.out j hjt
          have hjt1 : s.turns ≠ [] := by intro e; rw [e] at hjt; simp at hjt
          obtain ⟨tb, tof, cap', hv', hcp, hcell⟩ := HV.out.resolve_left (fun h => hjt1 h.1)
          simp only [Value.slice.injEq] at hv'
          obtain ⟨rfl, hNN, rfl⟩ := hv'
          clear hNN
          have hct := hcell j hjt
          obtain ⟨t, htj⟩ : ∃ t, s.turns[j] = t := ⟨_, rfl⟩
          rw [htj] at STEP hok hct
          have hct := hct.turn (Turn.of_below PT.out.low)
          obtain ⟨h1, h2, h3⟩ := hct
          obtain ⟨L, hL⟩ : ∃ L, L0 ++ ((s.turns.take j).flatMap fun t => 10 :: lineT t) = L := ⟨_, rfl⟩
          have hLl : L.length ≤ 2000000 := by rw [← hL, List.length_append]; omega
          rw [hL] at PT STEP
          have HTOK := Lib.hid hok
          have htb := World.block_lt_of_cell? _ _ h1
          clear hll hjt hjt1 hcell htj hL hok hcp
          go_wp2_with fail
          go_upto_region 21 with (fail)
          generalize hwa : World.alloc wr _ = wa
          obtain ⟨tba, taa⟩ := alloc1 hwa
          have PA := Lib.hid (PT.out.turn taa)
          clear hwa taa PT h1 h2 h3 htb
          have t0 := cell_blk (o := 0) tba
          have t1 := cell_blk (o := 1) tba
          have t2 := cell_blk (o := 2) tba
          obtain ⟨tk, sl, tt⟩ := t
          simp only [List.getElem?_toArray, List.getElem?_cons_succ, List.getElem?_cons_zero] at t0 t1 t2
          have tlt := heap_lt tba
          rcases turnOk_cases HTOK.out with ⟨hk0, hr⟩ | ⟨hk0, hr⟩ | ⟨hk0, hr⟩ | ⟨hk0, hr⟩
          all_goals simp only at hk0 hr
          all_goals subst hk0
          · have i0 := kindsAt0
            go_cut [9] (fun s9 wx => ∃ kb : Nat, s9 = .pointer (some ⟨kb, 0, none⟩) ∧ wx.heap[kb]? = some (.cells #[.string ⟨#[112, 105, 99, 107]⟩, .bool true, .bool true] 73) ∧ Turn Nn wa wx)
            case first =>
              go_region_with (go_at_call 26; refine (kinds_any _).mono ?_; rintro e w' ⟨rfl, rfl⟩)
              all_goals (go_wp2_with fail; go_meet; first | exact ⟨_, rfl, (alloc2 (w := wa) rfl).1, ((alloc2 (w := wa) rfl).2.2).drew⟩ | exact ⟨_, rfl, (alloc2 (w := wa) rfl).2.1, ((alloc2 (w := wa) rfl).2.2).drew⟩)
            case rest =>
              obtain ⟨kb, rfl, hkb, tx⟩ := hcut
              have tbx := (tx.block _ (heap_lt tba) (fun h => h)).trans tba
              have PX := Lib.hid (PA.out.turn tx)
              clear tba tx t0 t1 t2 i0 PA tlt
              go_wp2_with fail
              refine (writeB PX.out (by omega) 10).mono ?_
              rintro e w8 ⟨rfl, p8, k8⟩
              have hkb8 := k8 _ _ _ _ (PX.out.ne hkb (by decide)) (by decide) hkb
              have tb8 := k8 _ _ _ _ (PX.out.ne tbx (by decide)) (by decide) tbx
              have P8 := Lib.hid p8
              clear p8 k8 PX hkb tbx
              have x0 := cell_blk (o := 0) hkb8
              have x1 := cell_blk (o := 1) hkb8
              have x2 := cell_blk (o := 2) hkb8
              have y1 := cell_blk (o := 1) tb8
              have y2 := cell_blk (o := 2) tb8
              simp only [List.getElem?_toArray, List.getElem?_cons_succ, List.getElem?_cons_zero] at x0 x1 x2 y1 y2
              go_wp2_with fail
              refine (writeS P8.out (by simp; omega) [112, 105, 99, 107] (by simp)).mono ?_
              rintro e w9 ⟨rfl, p9, k9⟩
              have hkb9 := k9 _ _ _ _ (P8.out.ne hkb8 (by decide)) (by decide) hkb8
              have tb9 := k9 _ _ _ _ (P8.out.ne tb8 (by decide)) (by decide) tb8
              have P9 := Lib.hid p9
              clear p9 k9 P8 hkb8 tb8 x0 x1 x2 y1 y2
              have x1 := cell_blk (o := 1) hkb9
              have x2 := cell_blk (o := 2) hkb9
              have y1 := cell_blk (o := 1) tb9
              have y2 := cell_blk (o := 2) tb9
              simp only [List.getElem?_toArray, List.getElem?_cons_succ, List.getElem?_cons_zero] at x1 x2 y1 y2
              have hlt9 := heap_lt hkb9
              have hlt9b := heap_lt tb9
              go_wp2_with fail
              generalize hwg : World.alloc w9 _ = w10
              obtain ⟨ba, ta⟩ := alloc1 hwg
              have hkb10 := (ta.block _ (heap_lt hkb9) (fun h => h)).trans hkb9
              have tb10 := (ta.block _ (heap_lt tb9) (fun h => h)).trans tb9
              have P10 := Lib.hid (P9.out.turn ta)
              have z0 := cell_blk (o := 0) ba
              have LA := Lib.hid (HL.out.below (P10.out.low))
              clear hwg ba ta hlt9 hlt9b hkb9 tb9 x1 x2 y1 y2 P9
              refine (words1' (n := sl) ⟨by omega, by omega⟩ LA.out _ z0 (by have := itoa_short (n := sl) (by omega) (by omega); omega)).mono ?_
              rintro e w11 ⟨rfl, tw⟩
              have hkb11 := (tw.block _ (heap_lt hkb10) (fun h => h)).trans hkb10
              have tb11 := (tw.block _ (heap_lt tb10) (fun h => h)).trans tb10
              have P11 := Lib.hid (P10.out.turn tw)
              have hil := itoa_short (n := sl) (by omega) (by omega)
              clear tw z0 P10 hkb10 tb10 LA
              go_wp2_with fail
              refine (writeS P11.out (by simp; omega) (32 :: Lib.itoa sl) (by simp; omega)).mono ?_
              rintro e w12 ⟨rfl, p12, k12⟩
              have hkb12 := k12 _ _ _ _ (P11.out.ne hkb11 (by decide)) (by decide) hkb11
              have tb12 := k12 _ _ _ _ (P11.out.ne tb11 (by decide)) (by decide) tb11
              have P12 := Lib.hid p12
              clear p12 k12 P11 hkb11 tb11
              have x1 := cell_blk (o := 1) hkb12
              have x2 := cell_blk (o := 2) hkb12
              have y1 := cell_blk (o := 1) tb12
              have y2 := cell_blk (o := 2) tb12
              simp only [List.getElem?_toArray, List.getElem?_cons_succ, List.getElem?_cons_zero] at x1 x2 y1 y2
              have hlt9 := heap_lt hkb12
              have hlt9b := heap_lt tb12
              go_wp2_with fail
              generalize hwg : World.alloc w12 _ = w13
              obtain ⟨ba, ta⟩ := alloc1 hwg
              have hkb13 := (ta.block _ (heap_lt hkb12) (fun h => h)).trans hkb12
              have tb13 := (ta.block _ (heap_lt tb12) (fun h => h)).trans tb12
              have P13 := Lib.hid (P12.out.turn ta)
              have z0 := cell_blk (o := 0) ba
              have LA := Lib.hid (HL.out.below (P13.out.low))
              clear hwg ba ta hlt9 hlt9b hkb12 tb12 x1 x2 y1 y2 P12
              refine (words1' (n := tt) ⟨by omega, by omega⟩ LA.out _ z0 (by have := itoa_short (n := tt) (by omega) (by omega); omega)).mono ?_
              rintro e w14 ⟨rfl, tw⟩
              have hkb14 := (tw.block _ (heap_lt hkb13) (fun h => h)).trans hkb13
              have tb14 := (tw.block _ (heap_lt tb13) (fun h => h)).trans tb13
              have P14 := Lib.hid (P13.out.turn tw)
              have hil := itoa_short (n := tt) (by omega) (by omega)
              clear tw z0 P13 hkb13 tb13 LA
              go_wp2_with fail
              refine (writeS P14.out (by simp; omega) (32 :: Lib.itoa tt) (by simp; omega)).mono ?_
              rintro e w15 ⟨rfl, p15, k15⟩
              have hkb15 := k15 _ _ _ _ (P14.out.ne hkb14 (by decide)) (by decide) hkb14
              have tb15 := k15 _ _ _ _ (P14.out.ne tb14 (by decide)) (by decide) tb14
              have P15 := Lib.hid p15
              clear p15 k15 P14 hkb14 tb14
              have x1 := cell_blk (o := 1) hkb15
              have x2 := cell_blk (o := 2) hkb15
              have y1 := cell_blk (o := 1) tb15
              have y2 := cell_blk (o := 2) tb15
              simp only [List.getElem?_toArray, List.getElem?_cons_succ, List.getElem?_cons_zero] at x1 x2 y1 y2
              go_wp2_with fail
              clear c3 y1 y2 x1 x2
              go_roundw
              case rel =>
                refine ⟨j + 1, by omega, by go_num, ?_⟩
                rw [STEP.out]
                have := P15.out
                simpa [lineT, wPick, wRound, wShow, wRows] using this
              case measure => simp [intOf]; omega
          · have i0 := kindsAt1
            go_cut [9] (fun s9 wx => ∃ kb : Nat, s9 = .pointer (some ⟨kb, 0, none⟩) ∧ wx.heap[kb]? = some (.cells #[.string ⟨#[114, 111, 117, 110, 100]⟩, .bool false, .bool true] 73) ∧ Turn Nn wa wx)
            case first =>
              go_region_with (go_at_call 26; refine (kinds_any _).mono ?_; rintro e w' ⟨rfl, rfl⟩)
              all_goals (go_wp2_with fail; go_meet; first | exact ⟨_, rfl, (alloc2 (w := wa) rfl).1, ((alloc2 (w := wa) rfl).2.2).drew⟩ | exact ⟨_, rfl, (alloc2 (w := wa) rfl).2.1, ((alloc2 (w := wa) rfl).2.2).drew⟩)
            case rest =>
              obtain ⟨kb, rfl, hkb, tx⟩ := hcut
              have tbx := (tx.block _ (heap_lt tba) (fun h => h)).trans tba
              have PX := Lib.hid (PA.out.turn tx)
              clear tba tx t0 t1 t2 i0 PA tlt
              go_wp2_with fail
              refine (writeB PX.out (by omega) 10).mono ?_
              rintro e w8 ⟨rfl, p8, k8⟩
              have hkb8 := k8 _ _ _ _ (PX.out.ne hkb (by decide)) (by decide) hkb
              have tb8 := k8 _ _ _ _ (PX.out.ne tbx (by decide)) (by decide) tbx
              have P8 := Lib.hid p8
              clear p8 k8 PX hkb tbx
              have x0 := cell_blk (o := 0) hkb8
              have x1 := cell_blk (o := 1) hkb8
              have x2 := cell_blk (o := 2) hkb8
              have y1 := cell_blk (o := 1) tb8
              have y2 := cell_blk (o := 2) tb8
              simp only [List.getElem?_toArray, List.getElem?_cons_succ, List.getElem?_cons_zero] at x0 x1 x2 y1 y2
              go_wp2_with fail
              refine (writeS P8.out (by simp; omega) [114, 111, 117, 110, 100] (by simp)).mono ?_
              rintro e w9 ⟨rfl, p9, k9⟩
              have hkb9 := k9 _ _ _ _ (P8.out.ne hkb8 (by decide)) (by decide) hkb8
              have tb9 := k9 _ _ _ _ (P8.out.ne tb8 (by decide)) (by decide) tb8
              have P9 := Lib.hid p9
              clear p9 k9 P8 hkb8 tb8 x0 x1 x2 y1 y2
              have x1 := cell_blk (o := 1) hkb9
              have x2 := cell_blk (o := 2) hkb9
              have y1 := cell_blk (o := 1) tb9
              have y2 := cell_blk (o := 2) tb9
              simp only [List.getElem?_toArray, List.getElem?_cons_succ, List.getElem?_cons_zero] at x1 x2 y1 y2
              have hlt9 := heap_lt hkb9
              have hlt9b := heap_lt tb9
              go_wp2_with fail
              generalize hwg : World.alloc w9 _ = w10
              obtain ⟨ba, ta⟩ := alloc1 hwg
              have hkb10 := (ta.block _ (heap_lt hkb9) (fun h => h)).trans hkb9
              have tb10 := (ta.block _ (heap_lt tb9) (fun h => h)).trans tb9
              have P10 := Lib.hid (P9.out.turn ta)
              have z0 := cell_blk (o := 0) ba
              have LA := Lib.hid (HL.out.below (P10.out.low))
              clear hwg ba ta hlt9 hlt9b hkb9 tb9 x1 x2 y1 y2 P9
              refine (words1' (n := tt) ⟨by omega, by omega⟩ LA.out _ z0 (by have := itoa_short (n := tt) (by omega) (by omega); omega)).mono ?_
              rintro e w11 ⟨rfl, tw⟩
              have hkb11 := (tw.block _ (heap_lt hkb10) (fun h => h)).trans hkb10
              have tb11 := (tw.block _ (heap_lt tb10) (fun h => h)).trans tb10
              have P11 := Lib.hid (P10.out.turn tw)
              have hil := itoa_short (n := tt) (by omega) (by omega)
              clear tw z0 P10 hkb10 tb10 LA
              go_wp2_with fail
              refine (writeS P11.out (by simp; omega) (32 :: Lib.itoa tt) (by simp; omega)).mono ?_
              rintro e w12 ⟨rfl, p12, k12⟩
              have hkb12 := k12 _ _ _ _ (P11.out.ne hkb11 (by decide)) (by decide) hkb11
              have tb12 := k12 _ _ _ _ (P11.out.ne tb11 (by decide)) (by decide) tb11
              have P12 := Lib.hid p12
              clear p12 k12 P11 hkb11 tb11
              have x1 := cell_blk (o := 1) hkb12
              have x2 := cell_blk (o := 2) hkb12
              have y1 := cell_blk (o := 1) tb12
              have y2 := cell_blk (o := 2) tb12
              simp only [List.getElem?_toArray, List.getElem?_cons_succ, List.getElem?_cons_zero] at x1 x2 y1 y2
              go_wp2_with fail
              clear c3 y1 y2 x1 x2
              go_roundw
              case rel =>
                refine ⟨j + 1, by omega, by go_num, ?_⟩
                rw [STEP.out]
                have := P12.out
                simpa [lineT, wPick, wRound, wShow, wRows] using this
              case measure => simp [intOf]; omega
          · have i0 := kindsAt2
            go_cut [9] (fun s9 wx => ∃ kb : Nat, s9 = .pointer (some ⟨kb, 0, none⟩) ∧ wx.heap[kb]? = some (.cells #[.string ⟨#[115, 104, 111, 119]⟩, .bool false, .bool false] 73) ∧ Turn Nn wa wx)
            case first =>
              go_region_with (go_at_call 26; refine (kinds_any _).mono ?_; rintro e w' ⟨rfl, rfl⟩)
              all_goals (go_wp2_with fail; go_meet; first | exact ⟨_, rfl, (alloc2 (w := wa) rfl).1, ((alloc2 (w := wa) rfl).2.2).drew⟩ | exact ⟨_, rfl, (alloc2 (w := wa) rfl).2.1, ((alloc2 (w := wa) rfl).2.2).drew⟩)
            case rest =>
              obtain ⟨kb, rfl, hkb, tx⟩ := hcut
              have tbx := (tx.block _ (heap_lt tba) (fun h => h)).trans tba
              have PX := Lib.hid (PA.out.turn tx)
              clear tba tx t0 t1 t2 i0 PA tlt
              go_wp2_with fail
              refine (writeB PX.out (by omega) 10).mono ?_
              rintro e w8 ⟨rfl, p8, k8⟩
              have hkb8 := k8 _ _ _ _ (PX.out.ne hkb (by decide)) (by decide) hkb
              have tb8 := k8 _ _ _ _ (PX.out.ne tbx (by decide)) (by decide) tbx
              have P8 := Lib.hid p8
              clear p8 k8 PX hkb tbx
              have x0 := cell_blk (o := 0) hkb8
              have x1 := cell_blk (o := 1) hkb8
              have x2 := cell_blk (o := 2) hkb8
              have y1 := cell_blk (o := 1) tb8
              have y2 := cell_blk (o := 2) tb8
              simp only [List.getElem?_toArray, List.getElem?_cons_succ, List.getElem?_cons_zero] at x0 x1 x2 y1 y2
              go_wp2_with fail
              refine (writeS P8.out (by simp; omega) [115, 104, 111, 119] (by simp)).mono ?_
              rintro e w9 ⟨rfl, p9, k9⟩
              have hkb9 := k9 _ _ _ _ (P8.out.ne hkb8 (by decide)) (by decide) hkb8
              have tb9 := k9 _ _ _ _ (P8.out.ne tb8 (by decide)) (by decide) tb8
              have P9 := Lib.hid p9
              clear p9 k9 P8 hkb8 tb8 x0 x1 x2 y1 y2
              have x1 := cell_blk (o := 1) hkb9
              have x2 := cell_blk (o := 2) hkb9
              have y1 := cell_blk (o := 1) tb9
              have y2 := cell_blk (o := 2) tb9
              simp only [List.getElem?_toArray, List.getElem?_cons_succ, List.getElem?_cons_zero] at x1 x2 y1 y2
              go_wp2_with fail
              clear c3 y1 y2 x1 x2
              go_roundw
              case rel =>
                refine ⟨j + 1, by omega, by go_num, ?_⟩
                rw [STEP.out]
                have := P9.out
                simpa [lineT, wPick, wRound, wShow, wRows] using this
              case measure => simp [intOf]; omega
          · have i0 := kindsAt3
            go_cut [9] (fun s9 wx => ∃ kb : Nat, s9 = .pointer (some ⟨kb, 0, none⟩) ∧ wx.heap[kb]? = some (.cells #[.string ⟨#[114, 111, 119, 115]⟩, .bool false, .bool false] 73) ∧ Turn Nn wa wx)
            case first =>
              go_region_with (go_at_call 26; refine (kinds_any _).mono ?_; rintro e w' ⟨rfl, rfl⟩)
              all_goals (go_wp2_with fail; go_meet; first | exact ⟨_, rfl, (alloc2 (w := wa) rfl).1, ((alloc2 (w := wa) rfl).2.2).drew⟩ | exact ⟨_, rfl, (alloc2 (w := wa) rfl).2.1, ((alloc2 (w := wa) rfl).2.2).drew⟩)
            case rest =>
              obtain ⟨kb, rfl, hkb, tx⟩ := hcut
              have tbx := (tx.block _ (heap_lt tba) (fun h => h)).trans tba
              have PX := Lib.hid (PA.out.turn tx)
              clear tba tx t0 t1 t2 i0 PA tlt
              go_wp2_with fail
              refine (writeB PX.out (by omega) 10).mono ?_
              rintro e w8 ⟨rfl, p8, k8⟩
              have hkb8 := k8 _ _ _ _ (PX.out.ne hkb (by decide)) (by decide) hkb
              have tb8 := k8 _ _ _ _ (PX.out.ne tbx (by decide)) (by decide) tbx
              have P8 := Lib.hid p8
              clear p8 k8 PX hkb tbx
              have x0 := cell_blk (o := 0) hkb8
              have x1 := cell_blk (o := 1) hkb8
              have x2 := cell_blk (o := 2) hkb8
              have y1 := cell_blk (o := 1) tb8
              have y2 := cell_blk (o := 2) tb8
              simp only [List.getElem?_toArray, List.getElem?_cons_succ, List.getElem?_cons_zero] at x0 x1 x2 y1 y2
              go_wp2_with fail
              refine (writeS P8.out (by simp; omega) [114, 111, 119, 115] (by simp)).mono ?_
              rintro e w9 ⟨rfl, p9, k9⟩
              have hkb9 := k9 _ _ _ _ (P8.out.ne hkb8 (by decide)) (by decide) hkb8
              have tb9 := k9 _ _ _ _ (P8.out.ne tb8 (by decide)) (by decide) tb8
              have P9 := Lib.hid p9
              clear p9 k9 P8 hkb8 tb8 x0 x1 x2 y1 y2
              have x1 := cell_blk (o := 1) hkb9
              have x2 := cell_blk (o := 2) hkb9
              have y1 := cell_blk (o := 1) tb9
              have y2 := cell_blk (o := 2) tb9
              simp only [List.getElem?_toArray, List.getElem?_cons_succ, List.getElem?_cons_zero] at x1 x2 y1 y2
              go_wp2_with fail
              clear c3 y1 y2 x1 x2
              go_roundw
              case rel =>
                refine ⟨j + 1, by omega, by go_num, ?_⟩
                rw [STEP.out]
                have := P9.out
                simpa [lineT, wPick, wRound, wShow, wRows] using this
              case measure => simp [intOf]; omega
        · have hjN : j = N := by omega
          have hll := lines_len (badT_at HB.out) j
          have PZ : Hid (PrS w w2.heap.size #[.int .i64 s.chans, .int .i64 s.actors, .int .i64 s.cap, .bool false, .string M, .slice pa N cap] (L0 ++ s.turns.flatMap fun t => 10 :: lineT t) wr) := Lib.hid (by
            have := PT.out
            rw [List.take_of_length_le (by rw [HN.out]; omega)] at this
            exact this)
          rw [List.take_of_length_le (by rw [HN.out]; omega)] at hll
          obtain ⟨L, hL⟩ : ∃ L, (L0 ++ s.turns.flatMap fun t => 10 :: lineT t) = L := ⟨_, rfl⟩
          have hLl : L.length ≤ 2000000 := by rw [← hL, List.length_append]; omega
          have HLZ := Lib.hid hL
          rw [hL] at PZ
          clear PT hll hL c3 hjN
          go_wp2_with fail
          refine (writeB PZ.out (by omega) 10).mono ?_
          rintro e w8 ⟨rfl, p8, _⟩
          have P8 := Lib.hid p8
          clear p8 PZ
          go_wp2_with fail
          refine (Tryz.Builder_String_any w2.heap.size w2.heap.size (L ++ [10]) w8 P8.out.bld (Nat.le_of_lt P8.out.blt)).mono ?_
          rintro e w9 ⟨rfl, hbl⟩
          have HEND := Lib.hid (Turn.of_below (P8.out.low.trans (hbl.mono (Nat.le_of_lt P8.out.lt))))
          clear hbl
          go_wp2_with fail
          go_ret2
          refine ⟨?_, HEND.out⟩
          rw [HP.out]
          have e1 : textT s = L ++ [10] := by
            rw [← HLZ.out, ← HL0.out, ← HHT.out]; rfl
          rw [e1]
          rfl

set_option maxRecDepth 100000 in
set_option maxHeartbeats 32000000 in
theorem print_ok_true {s : ScriptD} {v : Value} {w : World} (hlw : Laid w) (htw : s.twin = true) (h : configOk s.chans s.actors s.cap = true) (hv : TSl w v s.turns) (hn : s.turns.length ≤ 4096) (hm : s.mod.length ≤ 65536) (hb : badT s.turns = false) :
    Calls Tryz.prog 8 #[.agg (scriptA s v)] w (PrintPost w s) := by
  have HP : Hid (printD s = (textT s, 0)) := Lib.hid (by unfold printD; rw [if_neg (noBad h hb), if_neg (by omega)])
  have HC := Lib.hid (config_any s.chans s.actors s.cap (w.alloc (.cells (scriptA s v) 26)))
  rw [h] at HC
  obtain ⟨pa, cap, hsh⟩ := hv.shape
  obtain ⟨M, hM⟩ : ∃ M, BT s.mod = M := ⟨_, rfl⟩
  have hms : M.size = s.mod.length := by rw [← hM]; rfl
  obtain ⟨N, hN⟩ : ∃ N, s.turns.length = N := ⟨_, rfl⟩
  rw [← hms] at hm
  rw [hN] at hsh hn
  simp only [scriptA] at HC ⊢
  rw [hM, htw] at HC ⊢
  have HV := Lib.hid hv
  have HB := Lib.hid hb
  have HN := Lib.hid hN
  have HM := Lib.hid hM
  have HMS := Lib.hid hms
  have HL := Lib.hid hlw
  have HTW := Lib.hid htw
  have HCF := Lib.hid (configOk_le h)
  have key : ∀ v', v = v' → Calls Tryz.prog 8 #[.agg #[.int .i64 s.chans, .int .i64 s.actors, .int .i64 s.cap, .bool true, .string M, v']] w (PrintPost w s) → Calls Tryz.prog 8 #[.agg #[.int .i64 s.chans, .int .i64 s.actors, .int .i64 s.cap, .bool true, .string M, v]] w (PrintPost w s) := fun v' e c => by rw [e]; exact c
  refine key _ hsh ?_
  rw [hsh] at HC HV
  clear h hv hb key hsh hM hms hN hlw htw
  go_enter Tryz.func8, Tryz.ntmps8
  go_wp2_with fail
  refine HC.out.mono ?_
  rintro e w' ⟨rfl, hw⟩
  have HT : Hid (Turn Nn (w.alloc (.cells #[.int .i64 s.chans, .int .i64 s.actors, .int .i64 s.cap, .bool true, .string M, .slice pa N cap] 26)) w') := by rw [hw]; exact Lib.hid ((Turn.refl Nn _).alloc _)
  have c3 := cell_turn HT.out (cell_blk (o := 5) (World.alloc_heap_new w _))
  clear hw
  go_wp2_with fail
  refine (contains_any ((HV.out.turn ((Turn.refl Nn w).alloc _)).turn HT.out) (by rw [HN.out]; omega)).mono ?_
  rintro e w2 ⟨rfl, ht2⟩
  have HBX := Lib.hid (((HT.out.trans ht2).block _ (heap_lt (World.alloc_heap_new w _)) (fun h => h)).trans (World.alloc_heap_new w _))
  have c0 := cell_blk (o := 0) HBX.out
  have c1 := cell_blk (o := 1) HBX.out
  have c1a := cell_blk (o := 2) HBX.out
  have c2 := cell_blk (o := 4) HBX.out
  have c3 := cell_blk (o := 5) HBX.out
  simp only [List.getElem?_toArray, List.getElem?_cons_succ, List.getElem?_cons_zero] at c0 c1 c1a c2 c3
  have HT2 := Lib.hid ((((Turn.refl Nn w).alloc _).trans HT.out).trans ht2)
  have HHL := Lib.hid (heap_lt HBX.out)
  have hlt2 : w.heap.size < w2.heap.size := HHL.out
  rw [HB.out]
  clear ht2 HC HT
  go_wp2_with fail
  generalize hw3 : World.alloc (World.alloc w2 _) _ = w3
  obtain ⟨b1, b2, t3⟩ := alloc2 hw3
  have q0 := cell_blk (o := 0) b2
  have q1 := cell_blk (o := 1) b2
  have q2 := cell_blk (o := 2) b2
  clear hlt2
  have HT3 := Lib.hid (HT2.out.trans t3)
  have P3 : Hid (PrS w w2.heap.size #[.int .i64 s.chans, .int .i64 s.actors, .int .i64 s.cap, .bool true, .string M, .slice pa N cap] [] w3) := Lib.hid ⟨.inl ⟨Nat.le_refl _, .slice none 0 0, b1, World.ownsRow_nil w3 _ 5 1, by simp [Value.ownBlock]⟩, (t3.block _ HHL.out (fun h => h)).trans HBX.out, HT3.out.below, HHL.out, heap_lt b1⟩
  clear hw3 b1 b2 t3 c0 c1 c1a c2 c3
  refine (words3' (by have := HCF.out; omega) (by have := HCF.out; omega) (by have := HCF.out; omega) (HL.out.turn HT3.out) (w2.heap.size + 1) q0 q1 q2).mono ?_
  rintro e w4 ⟨rfl, t4⟩
  have P4 := Lib.hid (P3.out.turn t4)
  obtain ⟨hd, hhd⟩ : ∃ hd, wMachine ++ 32 :: Lib.itoa s.chans ++ 32 :: Lib.itoa s.actors ++ 32 :: Lib.itoa s.cap = hd := ⟨_, rfl⟩
  have HHD : Hid (headN s = hd) := Lib.hid hhd
  have hdl : hd.length ≤ 100 := by
    rw [← hhd]
    have := HCF.out
    have l1 := itoa_short (n := s.chans) (by omega) (by omega)
    have l2 := itoa_short (n := s.actors) (by omega) (by omega)
    have l3 := itoa_short (n := s.cap) (by omega) (by omega)
    simp [wMachine]; omega
  rw [hhd]
  clear t4 q0 q1 q2 hhd P3
  go_wp2_with fail
  refine (writeS P4.out (by simp) hd (by omega)).mono ?_
  rintro e w5 ⟨rfl, p5, _⟩
  rw [List.nil_append] at p5
  have P5 := Lib.hid p5
  clear p5 P4
  have cb := cell_blk (o := 3) P5.out.box
  have c2 := cell_blk (o := 4) P5.out.box
  simp only [List.getElem?_toArray, List.getElem?_cons_succ, List.getElem?_cons_zero] at cb c2
  go_wp2_with fail
  refine (writeS P5.out (by omega) [32, 116, 119, 105, 110] (by simp)).mono ?_
  rintro e w6 ⟨rfl, p6, _⟩
  have P6 := Lib.hid p6
  clear p6 P5 cb c2
  have c2 := cell_blk (o := 4) P6.out.box
  simp only [List.getElem?_toArray, List.getElem?_cons_succ, List.getElem?_cons_zero] at c2
  have HHT : Hid (headT s = hd ++ [32, 116, 119, 105, 110]) := Lib.hid (by unfold headT; rw [HTW.out, ← HHD.out]; rfl)
  obtain ⟨hx, hhx⟩ : ∃ hx, hd ++ [32, 116, 119, 105, 110] = hx := ⟨_, rfl⟩
  have hdl : hx.length ≤ 200 := by rw [← hhx]; simp; omega
  rw [hhx] at P6 HHT
  clear hhx
  go_wp2_with fail
  go_loopw [6, 48] (fun _ i wr => ∃ k : Nat, k ≤ M.size ∧ i = .int .i64 k ∧ PrS w w2.heap.size #[.int .i64 s.chans, .int .i64 s.actors, .int .i64 s.cap, .bool true, .string M, .slice pa N cap] (hx ++ bytesT 0 (s.mod.take k)) wr) (fun _ i _ => M.size - (intOf i).toNat)
  case atStart => exact ⟨0, by omega, rfl, by rw [List.take_zero, bytesT, List.append_nil]; exact P6.out⟩
  case round =>
    obtain ⟨k, hk, rfl, hp⟩ := hrel
    have PR := Lib.hid hp
    clear hp P6 c2
    have c2 := cell_blk (o := 4) PR.out.box
    have c3 := cell_blk (o := 5) PR.out.box
    simp only [List.getElem?_toArray, List.getElem?_cons_succ, List.getElem?_cons_zero] at c2 c3
    have hlk := bytesT_length (s.mod.take k) 0
    have hlk2 : (s.mod.take k).length ≤ k := List.length_take_le _ _
    by_cases hlt : k < M.size
    · have hkm : k < s.mod.length := by rw [← HMS.out]; exact hlt
      have ST := Lib.hid (bytesT_step hkm)
      obtain ⟨L, hL⟩ : ∃ L, hx ++ bytesT 0 (s.mod.take k) = L := ⟨_, rfl⟩
      have hLl : L.length ≤ 1000000 := by rw [← hL, List.length_append]; omega
      have HLE := Lib.hid hL
      rw [hL] at PR
      have q1 : M[k] = s.mod[k] := by have := HM.out; subst this; rfl
      obtain ⟨c, hc⟩ : ∃ c, s.mod[k] = c := ⟨_, rfl⟩
      have hmk := q1.trans hc
      obtain ⟨u1, hu1⟩ : ∃ u, Go.Proofs.YtjnllclpdllceaaGreatDoor.hx (c.toNat / 16) = u := ⟨_, rfl⟩
      obtain ⟨u2, hu2⟩ : ∃ u, Go.Proofs.YtjnllclpdllceaaGreatDoor.hx (c.toNat % 16) = u := ⟨_, rfl⟩
      have hi1 : ∀ w, (Instr.index 9 (.string ⟨#[48, 49, 50, 51, 52, 53, 54, 55, 56, 57, 97, 98, 99, 100, 101, 102]⟩) (.int .u8 ((c.toNat : Int) / 16))).run Tryz.prog w = .ok (.int .u8 (u1.toNat : Int)) w := fun w => by
        rw [← hu1, show ((c.toNat : Int) / 16) = ((c.toNat / 16 : Nat) : Int) by omega]
        exact halves_at (by have := c.toNat_lt; omega) w
      have hi2 : ∀ w, (Instr.index 9 (.string ⟨#[48, 49, 50, 51, 52, 53, 54, 55, 56, 57, 97, 98, 99, 100, 101, 102]⟩) (.int .u8 ((c.toNat : Int) % 16))).run Tryz.prog w = .ok (.int .u8 (u2.toNat : Int)) w := fun w => by
        rw [← hu2, show ((c.toNat : Int) % 16) = ((c.toNat % 16 : Nat) : Int) by omega]
        exact halves_at (by have := c.toNat_lt; omega) w
      have HX2 : Hid (hx2 c = [u1, u2]) := Lib.hid (by rw [← hu1, ← hu2]; rfl)
      clear hu1 hu2
      rw [hc] at ST
      have hcl := c.toNat_lt
      have z1 : (0 : Int) ≤ (k : Int) := by omega
      have z2 : (k : Int) < (M.size : Int) := by omega
      clear hL q1 hc hkm hlk hlk2
      by_cases hk24 : k % 24 = 0
      · have h24 : ((k : Int) % 24 == 0) = true := by rw [beq_iff_eq]; omega
        have HK24 := Lib.hid hk24
        clear hk24
        go_wp2_with fail
        refine (writeS PR.out (by omega) [10, 98, 121, 116, 101, 115, 32] (by simp)).mono ?_
        rintro e w7 ⟨rfl, p7, _⟩
        have P7 := Lib.hid p7
        clear p7 PR c2 c3
        have c2 := cell_blk (o := 4) P7.out.box
        simp only [List.getElem?_toArray, List.getElem?_cons_succ, List.getElem?_cons_zero] at c2
        go_wp2_with fail
        refine (writeB P7.out (by simp; omega) u1).mono ?_
        rintro e w8 ⟨rfl, p8, _⟩
        have P8 := Lib.hid p8
        clear p8 P7 c2
        have c2 := cell_blk (o := 4) P8.out.box
        simp only [List.getElem?_toArray, List.getElem?_cons_succ, List.getElem?_cons_zero] at c2
        go_wp2_with fail
        refine (writeB P8.out (by simp; omega) u2).mono ?_
        rintro e w9 ⟨rfl, p9, _⟩
        have P9 := Lib.hid p9
        clear p9 P8 c2 hi1 hi2 hmk h24 c3 z1 z2 hcl hLl
        go_wp2_with fail
        go_roundw
        case rel =>
          refine ⟨k + 1, by omega, by go_num, ?_⟩
          have e1 := ST.out
          rw [HX2.out] at e1
          rw [e1, if_pos HK24.out, ← List.append_assoc, HLE.out]
          have := P9.out
          simpa [wBytes] using this
        case measure => simp [intOf]; omega
      · have h24 : ((k : Int) % 24 == 0) = false := by rw [beq_eq_false_iff_ne]; omega
        have HK24 := Lib.hid hk24
        clear hk24
        go_wp2_with fail
        refine (writeB PR.out (by omega) u1).mono ?_
        rintro e w8 ⟨rfl, p8, _⟩
        have P8 := Lib.hid p8
        clear p8 PR c2
        have c2 := cell_blk (o := 4) P8.out.box
        simp only [List.getElem?_toArray, List.getElem?_cons_succ, List.getElem?_cons_zero] at c2
        go_wp2_with fail
        refine (writeB P8.out (by simp; omega) u2).mono ?_
        rintro e w9 ⟨rfl, p9, _⟩
        have P9 := Lib.hid p9
        clear p9 P8 c2 hi1 hi2 hmk h24 c3 z1 z2 hcl hLl
        go_wp2_with fail
        go_roundw
        case rel =>
          refine ⟨k + 1, by omega, by go_num, ?_⟩
          have e1 := ST.out
          rw [HX2.out] at e1
          rw [e1, if_neg HK24.out, ← List.append_assoc, HLE.out]
          have := P9.out
          simpa [wBytes] using this
        case measure => simp [intOf]; omega
    · have hkM : k = M.size := by omega
      have PQ : Hid (PrS w w2.heap.size #[.int .i64 s.chans, .int .i64 s.actors, .int .i64 s.cap, .bool true, .string M, .slice pa N cap] (hx ++ bytesT 0 s.mod) wr) := Lib.hid (by
        have := PR.out
        rw [List.take_of_length_le (by rw [← HMS.out]; omega)] at this
        exact this)
      have hlm := bytesT_length s.mod 0
      have hml : s.mod.length ≤ 65536 := by rw [← HMS.out]; exact hm
      obtain ⟨L0, hL0⟩ : ∃ L, hx ++ bytesT 0 s.mod = L := ⟨_, rfl⟩
      have hL0l : L0.length ≤ 1000000 := by rw [← hL0, List.length_append]; omega
      have HL0 := Lib.hid hL0
      rw [hL0] at PQ
      clear PR hlk hlk2 hlm hml hL0 c2 hkM
      go_wp2_with fail
      go_loopw [73] (fun i wq => ∃ j : Nat, j ≤ N ∧ i = .int .i64 j ∧ PrS w w2.heap.size #[.int .i64 s.chans, .int .i64 s.actors, .int .i64 s.cap, .bool true, .string M, .slice pa N cap] (L0 ++ (s.turns.take j).flatMap fun t => 10 :: lineT t) wq) (fun i _ => N - (intOf i).toNat)
      case atStart => exact ⟨0, by omega, rfl, by simpa using PQ.out⟩
      case round =>
        obtain ⟨j, hj, rfl, hp⟩ := hrel
        have PT := Lib.hid hp
        clear hp PQ c3
        have c3 := cell_blk (o := 5) PT.out.box
        simp only [List.getElem?_toArray, List.getElem?_cons_succ, List.getElem?_cons_zero] at c3
        by_cases hjn : j < N
        · have hjt : j < s.turns.length := by rw [HN.out]; exact hjn
          have hll := lines_len (badT_at HB.out) j
          have STEP := Lib.hid (flat_step (s := s) (L0 := L0) hjt)
          have hok := badT_at HB.out j hjt
          have hjt1 : s.turns ≠ [] := by intro e; rw [e] at hjt; simp at hjt
          obtain ⟨tb, tof, cap', hv', hcp, hcell⟩ := HV.out.resolve_left (fun h => hjt1 h.1)
          simp only [Value.slice.injEq] at hv'
          obtain ⟨rfl, hNN, rfl⟩ := hv'
          clear hNN
          have hct := hcell j hjt
          obtain ⟨t, htj⟩ : ∃ t, s.turns[j] = t := ⟨_, rfl⟩
          rw [htj] at STEP hok hct
          have hct := hct.turn (Turn.of_below PT.out.low)
          obtain ⟨h1, h2, h3⟩ := hct
          obtain ⟨L, hL⟩ : ∃ L, L0 ++ ((s.turns.take j).flatMap fun t => 10 :: lineT t) = L := ⟨_, rfl⟩
          have hLl : L.length ≤ 2000000 := by rw [← hL, List.length_append]; omega
          rw [hL] at PT STEP
          have HTOK := Lib.hid hok
          have htb := World.block_lt_of_cell? _ _ h1
          clear hll hjt hjt1 hcell htj hL hok hcp
          go_wp2_with fail
          go_upto_region 21 with (fail)
          generalize hwa : World.alloc wr _ = wa
          obtain ⟨tba, taa⟩ := alloc1 hwa
          have PA := Lib.hid (PT.out.turn taa)
          clear hwa taa PT h1 h2 h3 htb
          have t0 := cell_blk (o := 0) tba
          have t1 := cell_blk (o := 1) tba
          have t2 := cell_blk (o := 2) tba
          obtain ⟨tk, sl, tt⟩ := t
          simp only [List.getElem?_toArray, List.getElem?_cons_succ, List.getElem?_cons_zero] at t0 t1 t2
          have tlt := heap_lt tba
          rcases turnOk_cases HTOK.out with ⟨hk0, hr⟩ | ⟨hk0, hr⟩ | ⟨hk0, hr⟩ | ⟨hk0, hr⟩
          all_goals simp only at hk0 hr
          all_goals subst hk0
          · have i0 := kindsAt0
            go_cut [9] (fun s9 wx => ∃ kb : Nat, s9 = .pointer (some ⟨kb, 0, none⟩) ∧ wx.heap[kb]? = some (.cells #[.string ⟨#[112, 105, 99, 107]⟩, .bool true, .bool true] 73) ∧ Turn Nn wa wx)
            case first =>
              go_region_with (go_at_call 26; refine (kinds_any _).mono ?_; rintro e w' ⟨rfl, rfl⟩)
              all_goals (go_wp2_with fail; go_meet; first | exact ⟨_, rfl, (alloc2 (w := wa) rfl).1, ((alloc2 (w := wa) rfl).2.2).drew⟩ | exact ⟨_, rfl, (alloc2 (w := wa) rfl).2.1, ((alloc2 (w := wa) rfl).2.2).drew⟩)
            case rest =>
              obtain ⟨kb, rfl, hkb, tx⟩ := hcut
              have tbx := (tx.block _ (heap_lt tba) (fun h => h)).trans tba
              have PX := Lib.hid (PA.out.turn tx)
              clear tba tx t0 t1 t2 i0 PA tlt
              go_wp2_with fail
              refine (writeB PX.out (by omega) 10).mono ?_
              rintro e w8 ⟨rfl, p8, k8⟩
              have hkb8 := k8 _ _ _ _ (PX.out.ne hkb (by decide)) (by decide) hkb
              have tb8 := k8 _ _ _ _ (PX.out.ne tbx (by decide)) (by decide) tbx
              have P8 := Lib.hid p8
              clear p8 k8 PX hkb tbx
              have x0 := cell_blk (o := 0) hkb8
              have x1 := cell_blk (o := 1) hkb8
              have x2 := cell_blk (o := 2) hkb8
              have y1 := cell_blk (o := 1) tb8
              have y2 := cell_blk (o := 2) tb8
              simp only [List.getElem?_toArray, List.getElem?_cons_succ, List.getElem?_cons_zero] at x0 x1 x2 y1 y2
              go_wp2_with fail
              refine (writeS P8.out (by simp; omega) [112, 105, 99, 107] (by simp)).mono ?_
              rintro e w9 ⟨rfl, p9, k9⟩
              have hkb9 := k9 _ _ _ _ (P8.out.ne hkb8 (by decide)) (by decide) hkb8
              have tb9 := k9 _ _ _ _ (P8.out.ne tb8 (by decide)) (by decide) tb8
              have P9 := Lib.hid p9
              clear p9 k9 P8 hkb8 tb8 x0 x1 x2 y1 y2
              have x1 := cell_blk (o := 1) hkb9
              have x2 := cell_blk (o := 2) hkb9
              have y1 := cell_blk (o := 1) tb9
              have y2 := cell_blk (o := 2) tb9
              simp only [List.getElem?_toArray, List.getElem?_cons_succ, List.getElem?_cons_zero] at x1 x2 y1 y2
              have hlt9 := heap_lt hkb9
              have hlt9b := heap_lt tb9
              go_wp2_with fail
              generalize hwg : World.alloc w9 _ = w10
              obtain ⟨ba, ta⟩ := alloc1 hwg
              have hkb10 := (ta.block _ (heap_lt hkb9) (fun h => h)).trans hkb9
              have tb10 := (ta.block _ (heap_lt tb9) (fun h => h)).trans tb9
              have P10 := Lib.hid (P9.out.turn ta)
              have z0 := cell_blk (o := 0) ba
              have LA := Lib.hid (HL.out.below (P10.out.low))
              clear hwg ba ta hlt9 hlt9b hkb9 tb9 x1 x2 y1 y2 P9
              refine (words1' (n := sl) ⟨by omega, by omega⟩ LA.out _ z0 (by have := itoa_short (n := sl) (by omega) (by omega); omega)).mono ?_
              rintro e w11 ⟨rfl, tw⟩
              have hkb11 := (tw.block _ (heap_lt hkb10) (fun h => h)).trans hkb10
              have tb11 := (tw.block _ (heap_lt tb10) (fun h => h)).trans tb10
              have P11 := Lib.hid (P10.out.turn tw)
              have hil := itoa_short (n := sl) (by omega) (by omega)
              clear tw z0 P10 hkb10 tb10 LA
              go_wp2_with fail
              refine (writeS P11.out (by simp; omega) (32 :: Lib.itoa sl) (by simp; omega)).mono ?_
              rintro e w12 ⟨rfl, p12, k12⟩
              have hkb12 := k12 _ _ _ _ (P11.out.ne hkb11 (by decide)) (by decide) hkb11
              have tb12 := k12 _ _ _ _ (P11.out.ne tb11 (by decide)) (by decide) tb11
              have P12 := Lib.hid p12
              clear p12 k12 P11 hkb11 tb11
              have x1 := cell_blk (o := 1) hkb12
              have x2 := cell_blk (o := 2) hkb12
              have y1 := cell_blk (o := 1) tb12
              have y2 := cell_blk (o := 2) tb12
              simp only [List.getElem?_toArray, List.getElem?_cons_succ, List.getElem?_cons_zero] at x1 x2 y1 y2
              have hlt9 := heap_lt hkb12
              have hlt9b := heap_lt tb12
              go_wp2_with fail
              generalize hwg : World.alloc w12 _ = w13
              obtain ⟨ba, ta⟩ := alloc1 hwg
              have hkb13 := (ta.block _ (heap_lt hkb12) (fun h => h)).trans hkb12
              have tb13 := (ta.block _ (heap_lt tb12) (fun h => h)).trans tb12
              have P13 := Lib.hid (P12.out.turn ta)
              have z0 := cell_blk (o := 0) ba
              have LA := Lib.hid (HL.out.below (P13.out.low))
              clear hwg ba ta hlt9 hlt9b hkb12 tb12 x1 x2 y1 y2 P12
              refine (words1' (n := tt) ⟨by omega, by omega⟩ LA.out _ z0 (by have := itoa_short (n := tt) (by omega) (by omega); omega)).mono ?_
              rintro e w14 ⟨rfl, tw⟩
              have hkb14 := (tw.block _ (heap_lt hkb13) (fun h => h)).trans hkb13
              have tb14 := (tw.block _ (heap_lt tb13) (fun h => h)).trans tb13
              have P14 := Lib.hid (P13.out.turn tw)
              have hil := itoa_short (n := tt) (by omega) (by omega)
              clear tw z0 P13 hkb13 tb13 LA
              go_wp2_with fail
              refine (writeS P14.out (by simp; omega) (32 :: Lib.itoa tt) (by simp; omega)).mono ?_
              rintro e w15 ⟨rfl, p15, k15⟩
              have hkb15 := k15 _ _ _ _ (P14.out.ne hkb14 (by decide)) (by decide) hkb14
              have tb15 := k15 _ _ _ _ (P14.out.ne tb14 (by decide)) (by decide) tb14
              have P15 := Lib.hid p15
              clear p15 k15 P14 hkb14 tb14
              have x1 := cell_blk (o := 1) hkb15
              have x2 := cell_blk (o := 2) hkb15
              have y1 := cell_blk (o := 1) tb15
              have y2 := cell_blk (o := 2) tb15
              simp only [List.getElem?_toArray, List.getElem?_cons_succ, List.getElem?_cons_zero] at x1 x2 y1 y2
              go_wp2_with fail
              clear c3 y1 y2 x1 x2
              go_roundw
              case rel =>
                refine ⟨j + 1, by omega, by go_num, ?_⟩
                rw [STEP.out]
                have := P15.out
                simpa [lineT, wPick, wRound, wShow, wRows] using this
              case measure => simp [intOf]; omega
          · have i0 := kindsAt1
            go_cut [9] (fun s9 wx => ∃ kb : Nat, s9 = .pointer (some ⟨kb, 0, none⟩) ∧ wx.heap[kb]? = some (.cells #[.string ⟨#[114, 111, 117, 110, 100]⟩, .bool false, .bool true] 73) ∧ Turn Nn wa wx)
            case first =>
              go_region_with (go_at_call 26; refine (kinds_any _).mono ?_; rintro e w' ⟨rfl, rfl⟩)
              all_goals (go_wp2_with fail; go_meet; first | exact ⟨_, rfl, (alloc2 (w := wa) rfl).1, ((alloc2 (w := wa) rfl).2.2).drew⟩ | exact ⟨_, rfl, (alloc2 (w := wa) rfl).2.1, ((alloc2 (w := wa) rfl).2.2).drew⟩)
            case rest =>
              obtain ⟨kb, rfl, hkb, tx⟩ := hcut
              have tbx := (tx.block _ (heap_lt tba) (fun h => h)).trans tba
              have PX := Lib.hid (PA.out.turn tx)
              clear tba tx t0 t1 t2 i0 PA tlt
              go_wp2_with fail
              refine (writeB PX.out (by omega) 10).mono ?_
              rintro e w8 ⟨rfl, p8, k8⟩
              have hkb8 := k8 _ _ _ _ (PX.out.ne hkb (by decide)) (by decide) hkb
              have tb8 := k8 _ _ _ _ (PX.out.ne tbx (by decide)) (by decide) tbx
              have P8 := Lib.hid p8
              clear p8 k8 PX hkb tbx
              have x0 := cell_blk (o := 0) hkb8
              have x1 := cell_blk (o := 1) hkb8
              have x2 := cell_blk (o := 2) hkb8
              have y1 := cell_blk (o := 1) tb8
              have y2 := cell_blk (o := 2) tb8
              simp only [List.getElem?_toArray, List.getElem?_cons_succ, List.getElem?_cons_zero] at x0 x1 x2 y1 y2
              go_wp2_with fail
              refine (writeS P8.out (by simp; omega) [114, 111, 117, 110, 100] (by simp)).mono ?_
              rintro e w9 ⟨rfl, p9, k9⟩
              have hkb9 := k9 _ _ _ _ (P8.out.ne hkb8 (by decide)) (by decide) hkb8
              have tb9 := k9 _ _ _ _ (P8.out.ne tb8 (by decide)) (by decide) tb8
              have P9 := Lib.hid p9
              clear p9 k9 P8 hkb8 tb8 x0 x1 x2 y1 y2
              have x1 := cell_blk (o := 1) hkb9
              have x2 := cell_blk (o := 2) hkb9
              have y1 := cell_blk (o := 1) tb9
              have y2 := cell_blk (o := 2) tb9
              simp only [List.getElem?_toArray, List.getElem?_cons_succ, List.getElem?_cons_zero] at x1 x2 y1 y2
              have hlt9 := heap_lt hkb9
              have hlt9b := heap_lt tb9
              go_wp2_with fail
              generalize hwg : World.alloc w9 _ = w10
              obtain ⟨ba, ta⟩ := alloc1 hwg
              have hkb10 := (ta.block _ (heap_lt hkb9) (fun h => h)).trans hkb9
              have tb10 := (ta.block _ (heap_lt tb9) (fun h => h)).trans tb9
              have P10 := Lib.hid (P9.out.turn ta)
              have z0 := cell_blk (o := 0) ba
              have LA := Lib.hid (HL.out.below (P10.out.low))
              clear hwg ba ta hlt9 hlt9b hkb9 tb9 x1 x2 y1 y2 P9
              refine (words1' (n := tt) ⟨by omega, by omega⟩ LA.out _ z0 (by have := itoa_short (n := tt) (by omega) (by omega); omega)).mono ?_
              rintro e w11 ⟨rfl, tw⟩
              have hkb11 := (tw.block _ (heap_lt hkb10) (fun h => h)).trans hkb10
              have tb11 := (tw.block _ (heap_lt tb10) (fun h => h)).trans tb10
              have P11 := Lib.hid (P10.out.turn tw)
              have hil := itoa_short (n := tt) (by omega) (by omega)
              clear tw z0 P10 hkb10 tb10 LA
              go_wp2_with fail
              refine (writeS P11.out (by simp; omega) (32 :: Lib.itoa tt) (by simp; omega)).mono ?_
              rintro e w12 ⟨rfl, p12, k12⟩
              have hkb12 := k12 _ _ _ _ (P11.out.ne hkb11 (by decide)) (by decide) hkb11
              have tb12 := k12 _ _ _ _ (P11.out.ne tb11 (by decide)) (by decide) tb11
              have P12 := Lib.hid p12
              clear p12 k12 P11 hkb11 tb11
              have x1 := cell_blk (o := 1) hkb12
              have x2 := cell_blk (o := 2) hkb12
              have y1 := cell_blk (o := 1) tb12
              have y2 := cell_blk (o := 2) tb12
              simp only [List.getElem?_toArray, List.getElem?_cons_succ, List.getElem?_cons_zero] at x1 x2 y1 y2
              go_wp2_with fail
              clear c3 y1 y2 x1 x2
              go_roundw
              case rel =>
                refine ⟨j + 1, by omega, by go_num, ?_⟩
                rw [STEP.out]
                have := P12.out
                simpa [lineT, wPick, wRound, wShow, wRows] using this
              case measure => simp [intOf]; omega
          · have i0 := kindsAt2
            go_cut [9] (fun s9 wx => ∃ kb : Nat, s9 = .pointer (some ⟨kb, 0, none⟩) ∧ wx.heap[kb]? = some (.cells #[.string ⟨#[115, 104, 111, 119]⟩, .bool false, .bool false] 73) ∧ Turn Nn wa wx)
            case first =>
              go_region_with (go_at_call 26; refine (kinds_any _).mono ?_; rintro e w' ⟨rfl, rfl⟩)
              all_goals (go_wp2_with fail; go_meet; first | exact ⟨_, rfl, (alloc2 (w := wa) rfl).1, ((alloc2 (w := wa) rfl).2.2).drew⟩ | exact ⟨_, rfl, (alloc2 (w := wa) rfl).2.1, ((alloc2 (w := wa) rfl).2.2).drew⟩)
            case rest =>
              obtain ⟨kb, rfl, hkb, tx⟩ := hcut
              have tbx := (tx.block _ (heap_lt tba) (fun h => h)).trans tba
              have PX := Lib.hid (PA.out.turn tx)
              clear tba tx t0 t1 t2 i0 PA tlt
              go_wp2_with fail
              refine (writeB PX.out (by omega) 10).mono ?_
              rintro e w8 ⟨rfl, p8, k8⟩
              have hkb8 := k8 _ _ _ _ (PX.out.ne hkb (by decide)) (by decide) hkb
              have tb8 := k8 _ _ _ _ (PX.out.ne tbx (by decide)) (by decide) tbx
              have P8 := Lib.hid p8
              clear p8 k8 PX hkb tbx
              have x0 := cell_blk (o := 0) hkb8
              have x1 := cell_blk (o := 1) hkb8
              have x2 := cell_blk (o := 2) hkb8
              have y1 := cell_blk (o := 1) tb8
              have y2 := cell_blk (o := 2) tb8
              simp only [List.getElem?_toArray, List.getElem?_cons_succ, List.getElem?_cons_zero] at x0 x1 x2 y1 y2
              go_wp2_with fail
              refine (writeS P8.out (by simp; omega) [115, 104, 111, 119] (by simp)).mono ?_
              rintro e w9 ⟨rfl, p9, k9⟩
              have hkb9 := k9 _ _ _ _ (P8.out.ne hkb8 (by decide)) (by decide) hkb8
              have tb9 := k9 _ _ _ _ (P8.out.ne tb8 (by decide)) (by decide) tb8
              have P9 := Lib.hid p9
              clear p9 k9 P8 hkb8 tb8 x0 x1 x2 y1 y2
              have x1 := cell_blk (o := 1) hkb9
              have x2 := cell_blk (o := 2) hkb9
              have y1 := cell_blk (o := 1) tb9
              have y2 := cell_blk (o := 2) tb9
              simp only [List.getElem?_toArray, List.getElem?_cons_succ, List.getElem?_cons_zero] at x1 x2 y1 y2
              go_wp2_with fail
              clear c3 y1 y2 x1 x2
              go_roundw
              case rel =>
                refine ⟨j + 1, by omega, by go_num, ?_⟩
                rw [STEP.out]
                have := P9.out
                simpa [lineT, wPick, wRound, wShow, wRows] using this
              case measure => simp [intOf]; omega
          · have i0 := kindsAt3
            go_cut [9] (fun s9 wx => ∃ kb : Nat, s9 = .pointer (some ⟨kb, 0, none⟩) ∧ wx.heap[kb]? = some (.cells #[.string ⟨#[114, 111, 119, 115]⟩, .bool false, .bool false] 73) ∧ Turn Nn wa wx)
            case first =>
              go_region_with (go_at_call 26; refine (kinds_any _).mono ?_; rintro e w' ⟨rfl, rfl⟩)
              all_goals (go_wp2_with fail; go_meet; first | exact ⟨_, rfl, (alloc2 (w := wa) rfl).1, ((alloc2 (w := wa) rfl).2.2).drew⟩ | exact ⟨_, rfl, (alloc2 (w := wa) rfl).2.1, ((alloc2 (w := wa) rfl).2.2).drew⟩)
            case rest =>
              obtain ⟨kb, rfl, hkb, tx⟩ := hcut
              have tbx := (tx.block _ (heap_lt tba) (fun h => h)).trans tba
              have PX := Lib.hid (PA.out.turn tx)
              clear tba tx t0 t1 t2 i0 PA tlt
              go_wp2_with fail
              refine (writeB PX.out (by omega) 10).mono ?_
              rintro e w8 ⟨rfl, p8, k8⟩
              have hkb8 := k8 _ _ _ _ (PX.out.ne hkb (by decide)) (by decide) hkb
              have tb8 := k8 _ _ _ _ (PX.out.ne tbx (by decide)) (by decide) tbx
              have P8 := Lib.hid p8
              clear p8 k8 PX hkb tbx
              have x0 := cell_blk (o := 0) hkb8
              have x1 := cell_blk (o := 1) hkb8
              have x2 := cell_blk (o := 2) hkb8
              have y1 := cell_blk (o := 1) tb8
              have y2 := cell_blk (o := 2) tb8
              simp only [List.getElem?_toArray, List.getElem?_cons_succ, List.getElem?_cons_zero] at x0 x1 x2 y1 y2
              go_wp2_with fail
              refine (writeS P8.out (by simp; omega) [114, 111, 119, 115] (by simp)).mono ?_
              rintro e w9 ⟨rfl, p9, k9⟩
              have hkb9 := k9 _ _ _ _ (P8.out.ne hkb8 (by decide)) (by decide) hkb8
              have tb9 := k9 _ _ _ _ (P8.out.ne tb8 (by decide)) (by decide) tb8
              have P9 := Lib.hid p9
              clear p9 k9 P8 hkb8 tb8 x0 x1 x2 y1 y2
              have x1 := cell_blk (o := 1) hkb9
              have x2 := cell_blk (o := 2) hkb9
              have y1 := cell_blk (o := 1) tb9
              have y2 := cell_blk (o := 2) tb9
              simp only [List.getElem?_toArray, List.getElem?_cons_succ, List.getElem?_cons_zero] at x1 x2 y1 y2
              go_wp2_with fail
              clear c3 y1 y2 x1 x2
              go_roundw
              case rel =>
                refine ⟨j + 1, by omega, by go_num, ?_⟩
                rw [STEP.out]
                have := P9.out
                simpa [lineT, wPick, wRound, wShow, wRows] using this
              case measure => simp [intOf]; omega
        · have hjN : j = N := by omega
          have hll := lines_len (badT_at HB.out) j
          have PZ : Hid (PrS w w2.heap.size #[.int .i64 s.chans, .int .i64 s.actors, .int .i64 s.cap, .bool true, .string M, .slice pa N cap] (L0 ++ s.turns.flatMap fun t => 10 :: lineT t) wr) := Lib.hid (by
            have := PT.out
            rw [List.take_of_length_le (by rw [HN.out]; omega)] at this
            exact this)
          rw [List.take_of_length_le (by rw [HN.out]; omega)] at hll
          obtain ⟨L, hL⟩ : ∃ L, (L0 ++ s.turns.flatMap fun t => 10 :: lineT t) = L := ⟨_, rfl⟩
          have hLl : L.length ≤ 2000000 := by rw [← hL, List.length_append]; omega
          have HLZ := Lib.hid hL
          rw [hL] at PZ
          clear PT hll hL c3 hjN
          go_wp2_with fail
          refine (writeB PZ.out (by omega) 10).mono ?_
          rintro e w8 ⟨rfl, p8, _⟩
          have P8 := Lib.hid p8
          clear p8 PZ
          go_wp2_with fail
          refine (Tryz.Builder_String_any w2.heap.size w2.heap.size (L ++ [10]) w8 P8.out.bld (Nat.le_of_lt P8.out.blt)).mono ?_
          rintro e w9 ⟨rfl, hbl⟩
          have HEND := Lib.hid (Turn.of_below (P8.out.low.trans (hbl.mono (Nat.le_of_lt P8.out.lt))))
          clear hbl
          go_wp2_with fail
          go_ret2
          refine ⟨?_, HEND.out⟩
          rw [HP.out]
          have e1 : textT s = L ++ [10] := by
            rw [← HLZ.out, ← HL0.out, ← HHT.out]; rfl
          rw [e1]
          rfl

/-- The program's Print. -/
theorem print_any {s : ScriptD} {v : Value} {w : World} (hlw : Laid w) (hv : TSl w v s.turns) (hn : s.turns.length ≤ 1000000) (hm : s.mod.length ≤ 1000000) :
    Calls Tryz.prog 8 #[.agg (scriptA s v)] w (PrintPost w s) := by
  cases h : configOk s.chans s.actors s.cap with
  | false => exact print_no1 h
  | true =>
    cases hb : badT s.turns with
    | true => exact print_no2 h hv hn hb
    | false =>
      by_cases hl : 65536 < s.mod.length ∨ 4096 < s.turns.length
      · exact print_long h hv hn hm hb hl
      · cases htw : s.twin with
        | false => exact print_ok_false hlw htw h hv (by omega) (by omega) hb
        | true => exact print_ok_true hlw htw h hv (by omega) (by omega) hb
end Go.Proofs.YtjnllclpdllceaaGreatDoor
