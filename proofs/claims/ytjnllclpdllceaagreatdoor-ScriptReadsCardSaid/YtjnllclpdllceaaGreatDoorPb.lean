/- The document's Print, at any script. A script's box, stored anew. ScriptPrints' walk. -/
import Derived.Test.YtjnllclpdllceaaGreatDoorUh
import Derived.Test.YtjnllclpdllceaaGreatDoorVi
import Derived.Test.YtjnllclpdllceaaGreatDoorVo
namespace Go.Proofs.YtjnllclpdllceaaGreatDoor
set_option linter.unusedSimpArgs false
set_option linter.unusedVariables false
open Go.RowKit Go.Shelf


theorem refPrint_any {s : ScriptD} {v : Value} {w : World} (hv : TSl w v s.turns) (hn : s.turns.length ≤ 1000000) (hm : s.mod.length ≤ 1000000) :
    Calls Tryz.prog 9 #[.agg (scriptA s v)] w (PrintPost w s) := by
  cases h : configOk s.chans s.actors s.cap with
  | false => exact refPrint_no1 h
  | true => exact refPrint_yes h hv hn hm

theorem TSl.set {w : World} {v : Value} {ts : List TurnD} {b o : Nat} {x : Value} (h : TSl w v ts) (hne : ts ≠ [] → ∀ j, v.ownBlock = some j → j ≠ b) : TSl (w.setCell ⟨b, o, none⟩ x) v ts := by
  by_cases hts : ts = []
  · rcases h with h | ⟨b1, o1, cap, rfl, h2, h3⟩
    · exact .inl h
    · exact .inl ⟨hts, _, cap, by rw [hts]; rfl⟩
  rcases h with h | ⟨b1, o1, cap, rfl, h2, h3⟩
  · exact .inl h
  · have hb : b1 ≠ b := hne hts b1 rfl
    refine .inr ⟨b1, o1, cap, rfl, h2, fun i hi => ?_⟩
    have key : ∀ k u, w.cell? ⟨b1, k, none⟩ = some u → (w.setCell ⟨b, o, none⟩ x).cell? ⟨b1, k, none⟩ = some u := fun k u hu =>
      (World.cell?_setCell_other _ _ _ _ (fun e => hb (by have := congrArg Addr.block e; exact this.symm))).trans hu
    exact ⟨key _ _ (h3 i hi).1, key _ _ (h3 i hi).2.1, key _ _ (h3 i hi).2.2⟩

theorem TSl.lt {w : World} {v : Value} {ts : List TurnD} (h : TSl w v ts) (hts : ts ≠ []) (j : Nat) (hj : v.ownBlock = some j) : j < w.heap.size := by
  obtain ⟨b1, o1, cap, rfl, h2, h3⟩ := h.resolve_left (fun h => hts h.1)
  cases hj
  exact World.block_lt_of_cell? w _ (h3 0 (List.length_pos_iff.2 hts)).1

theorem TSl.take {w : World} {pa : Option Addr} {n cap : Nat} {ts : List TurnD} (h : TSl w (.slice pa ts.length cap) ts) (k : Nat) (hk : n = min ts.length k) : TSl w (.slice pa n cap) (ts.take k) := by
  subst hk
  rcases h with ⟨rfl, pa', cap', e⟩ | ⟨b1, o1, cap', e, h2, h3⟩
  · exact .inl ⟨by simp, pa, cap, by simp⟩
  · simp only [Value.slice.injEq] at e
    obtain ⟨rfl, _, rfl⟩ := e
    refine .inr ⟨b1, o1, cap, by rw [List.length_take, Nat.min_comm], by rw [List.length_take]; omega, fun i hi => ?_⟩
    rw [List.length_take] at hi
    have := h3 i (by omega)
    rw [List.getElem_take]
    exact this

/-- What is so between two rounds of ScriptPrints. -/
def PS (w : World) (b0 b1 : Nat) (D : Array Value) (wr : World) : Prop :=
  ∃ s pa cap, wr.heap[b0]? = some (.cells (scriptA s (.slice pa s.turns.length cap)) 26) ∧ wr.heap[b1]? = some (.cells D 31) ∧ TSl wr (.slice pa s.turns.length cap) s.turns ∧ s.turns.length ≤ 5000 ∧ s.mod.length ≤ 3000 ∧ Turn Nn w wr

theorem PS.store {w wr : World} {b0 b1 : Nat} {D : Array Value} {z : Array Value} {s : ScriptD} {pa : Option Addr} {cap : Nat} (ht : Turn Nn w wr) (hb0 : w.heap.size ≤ b0) (hne : b1 ≠ b0) {z0 z1 z2 z3 z4 z5 : Value} (h0 : wr.heap[b0]? = some (.cells #[z0, z1, z2, z3, z4, z5] 26)) (h1 : wr.heap[b1]? = some (.cells D 31))
    (hv : TSl wr (.slice pa s.turns.length cap) s.turns) (ho : ∀ j, (Value.slice pa s.turns.length cap).ownBlock = some j → j ≠ b0) (hn : s.turns.length ≤ 5000) (hm : s.mod.length ≤ 3000) :
    PS w b0 b1 D ((((((wr.setCell ⟨b0, 0, none⟩ (.int .i64 s.chans)).setCell ⟨b0, 1, none⟩ (.int .i64 s.actors)).setCell ⟨b0, 2, none⟩ (.int .i64 s.cap)).setCell ⟨b0, 3, none⟩ (.bool s.twin)).setCell ⟨b0, 4, none⟩ (.string (BT s.mod))).setCell ⟨b0, 5, none⟩ (.slice pa s.turns.length cap)) := by
  refine ⟨s, pa, cap, store6 h0 _ _ _ _ _ _, ?_, ?_, hn, hm, ?_⟩
  · exact blk_set (blk_set (blk_set (blk_set (blk_set (blk_set h1 hne) hne) hne) hne) hne) hne
  · have ho := fun (_ : s.turns ≠ []) => ho
    exact (((((hv.set ho).set ho).set ho).set ho).set ho).set ho
  · exact (((((ht.setCell (.inr hb0) _).setCell (.inr hb0) _).setCell (.inr hb0) _).setCell (.inr hb0) _).setCell (.inr hb0) _).setCell (.inr hb0) _


set_option maxRecDepth 100000 in
set_option maxHeartbeats 16000000 in
theorem prints_any {s : ScriptD} {pa : Option Addr} {cap : Nat} {a0 a1 a2 odd N : Nat} {tw : Bool} {mv tv : Value} {l : Bs} {w : World} (hv : TSl w (.slice pa s.turns.length cap) s.turns) (hcap : s.turns.length ≤ cap) (hn : s.turns.length ≤ 9223372036854775807) (hmo : s.mod.length ≤ 9223372036854775807)
    (h0 : a0 < 256) (h1 : a1 < 256) (h2 : a2 < 256) (ho : odd < 256) (hm : BSl w mv l) (hl : l.length ≤ 9223372036854775807) (ht : ASl w tv N) (hN : N ≤ 9223372036854775807)
    (hlw : Laid w) (hmx : Mx w) (he : ET w) :
    Calls Tryz.prog 3 #[.agg (scriptA s (.slice pa s.turns.length cap)), .agg (dcells a0 a1 a2 tw mv tv odd)] w fun e w' => e = .returned (.bool true) ∧ Turn Nn w w' := by
  obtain ⟨w1, hw1⟩ : ∃ w1, (w.alloc (.cells (scriptA s (.slice pa s.turns.length cap)) 26)).alloc (.cells (dcells a0 a1 a2 tw mv tv odd) 31) = w1 := ⟨_, rfl⟩
  obtain ⟨b0, b1, t1⟩ := alloc2 hw1
  have T1 := Lib.hid t1
  have HM := Lib.hid hm
  have HT := Lib.hid ht
  have HL := Lib.hid hlw
  have HMX := Lib.hid hmx
  have HE := Lib.hid he
  have HV := Lib.hid (hv.turn t1)
  have HVO : Hid (s.turns ≠ [] → ∀ j, (Value.slice pa s.turns.length cap).ownBlock = some j → j ≠ w.heap.size) := Lib.hid (fun hts j hj => by have := hv.lt hts j hj; omega)
  obtain ⟨c0, hc0⟩ : ∃ c, s.chans = c := ⟨_, rfl⟩
  obtain ⟨c1, hc1⟩ : ∃ c, s.actors = c := ⟨_, rfl⟩
  obtain ⟨c2, hc2⟩ : ∃ c, s.cap = c := ⟨_, rfl⟩
  obtain ⟨c3, hc3⟩ : ∃ c, s.twin = c := ⟨_, rfl⟩
  obtain ⟨M, hM⟩ : ∃ M, BT s.mod = M := ⟨_, rfl⟩
  obtain ⟨K, hK⟩ : ∃ K, s.turns.length = K := ⟨_, rfl⟩
  have hMs : M.size = s.mod.length := by rw [← hM, BT_size]
  simp only [scriptA, dcells] at hw1 b0 ⊢
  rw [hc0, hc1, hc2, hc3, hM, hK] at hw1 b0
  rw [hc0, hc1, hc2, hc3, hM, hK]
  rw [hK] at hn hcap
  have hMl : M.size ≤ 9223372036854775807 := by omega
  obtain ⟨f0, f1, f2, f3, f4, f5⟩ := cells6 b0
  have z4 := frozen_blk (o := 4) b0
  have z5 := frozen_blk (o := 5) b0
  obtain ⟨m', hm'⟩ : ∃ m' : Bs, m' = s.mod.take 3000 := ⟨_, rfl⟩
  have hcut : M.extract 0 (min (M.size : Int) 3000).toNat = BT m' := by
    rw [← hM, hm']
    unfold BT
    apply ByteArray.ext
    simp only [ByteArray.data_extract, List.extract_toArray, ByteArray.size]
    congr 1
    rw [List.extract_eq_take_drop]
    simp only [List.drop_zero, Nat.sub_zero, List.size_toArray]
    by_cases h3 : s.mod.length ≤ 3000
    · rw [List.take_of_length_le (l := s.mod) (i := 3000) h3, List.take_of_length_le (by omega)]
    · congr 1; omega
  have HM' := Lib.hid hm'
  have B0 := Lib.hid b0
  have B1 := Lib.hid b1
  have HS : Hid (s.chans = c0 ∧ s.actors = c1 ∧ s.cap = c2 ∧ s.twin = c3 ∧ s.turns.length = K) := Lib.hid ⟨hc0, hc1, hc2, hc3, hK⟩
  clear b0 b1 t1 hv hm ht hlw hmx he hc0 hc1 hc2 hc3 hM hK hMs hm' hmo
  go_enter Tryz.func3, Tryz.ntmps3
  go_upto_region 2 with (fail)
  generalize hW : World.setCell w1 _ _ = w2
  have C0 : Hid (w2.heap[w.heap.size]? = some (.cells #[.int .i64 c0, .int .i64 c1, .int .i64 c2, .bool c3, .string (BT m'), .slice pa K cap] 26)) := Lib.hid (by rw [← hW]; exact heap_setCell_at B0.out 4 _)
  have C1 : Hid (w2.heap[w.heap.size + 1]? = some (.cells #[.int .u8 (a0 : Int), .int .u8 (a1 : Int), .int .u8 (a2 : Int), .bool tw, mv, tv, .int .u8 (odd : Int)] 31)) := Lib.hid (by rw [← hW]; exact blk_set B1.out (by omega))
  have CT : Hid (Turn Nn w w2) := Lib.hid (by rw [← hW]; exact T1.out.setCell (p := ⟨w.heap.size, 4, none⟩) (.inr (Nat.le_refl _)) _)
  have CV : Hid (TSl w2 (.slice pa s.turns.length cap) s.turns) := Lib.hid (by rw [← hW]; exact HV.out.set (HVO.out))
  clear hW f0 f1 f2 f3 f4 f5 z4 z5 hcut hw1 B0 B1 HV T1
  obtain ⟨f0, f1, f2, f3, f4, f5⟩ := cells6 C0.out
  have z5 := frozen_blk (o := 5) C0.out
  go_upto_region 3 with (fail)
  obtain ⟨K', hK'⟩ : ∃ K', (min (K : Int) 5000).toNat = K' := ⟨_, rfl⟩
  rw [hK']
  generalize hW : World.setCell w2 _ _ = w3
  have hlen : (s.turns.take 5000).length = K' := by
    obtain ⟨_, _, _, _, e5⟩ := HS.out
    rw [List.length_take, e5, ← hK']; omega
  have hps : PS w w.heap.size (w.heap.size + 1) #[.int .u8 (a0 : Int), .int .u8 (a1 : Int), .int .u8 (a2 : Int), .bool tw, mv, tv, .int .u8 (odd : Int)] w3 := by
    obtain ⟨e1, e2, e3, e4, e5⟩ := HS.out
    refine ⟨⟨c0, c1, c2, c3, m', s.turns.take 5000⟩, pa, cap, ?_, ?_, ?_, by rw [hlen, ← hK']; omega, by rw [HM'.out]; exact List.length_take_le _ _, ?_⟩
    · rw [← hW, hlen]; exact heap_setCell_at C0.out 5 _
    · rw [← hW]; exact blk_set C1.out (by omega)
    · rw [hlen]
      have h1 : TSl w3 (.slice pa s.turns.length cap) s.turns := by rw [← hW]; exact CV.out.set (HVO.out)
      exact h1.take 5000 (by rw [← hlen, List.length_take, Nat.min_comm])
    · rw [← hW]; exact CT.out.setCell (p := ⟨w.heap.size, 5, none⟩) (.inr (Nat.le_refl _)) _
  have HPS := Lib.hid hps
  clear hps hW hlen hK' C0 C1 CT CV f0 f1 f2 f3 f4 f5 z5 HM' HS HVO hcap hn hMl
  go_wp2_with fail
  go_loopw [5] (fun i wr => ∃ q : Nat, q ≤ 2 ∧ i = .int .i64 q ∧ PS w w.heap.size (w.heap.size + 1) #[.int .u8 (a0 : Int), .int .u8 (a1 : Int), .int .u8 (a2 : Int), .bool tw, mv, tv, .int .u8 (odd : Int)] wr) (fun i _ => 2 - (intOf i).toNat)
  case atStart => exact ⟨0, by omega, rfl, HPS.out⟩
  case round =>
    obtain ⟨q, hq, rfl, s', pb, cb, hb0, hb1, hv, hn1, hm1, ht1⟩ := hrel
    have D0 := Lib.hid hb0
    have D1 := Lib.hid hb1
    have DV := Lib.hid hv
    have DT := Lib.hid ht1
    clear hb0 hb1 hv ht1
    by_cases hlt : q < 2
    · have D0a := D0.out
      simp only [scriptA] at D0a
      obtain ⟨f0, f1, f2, f3, f4, f5⟩ := cells6 D0a
      clear D0a
      obtain ⟨x, c, hpr⟩ : ∃ x c, printD s' = (x, c) := ⟨_, _, rfl⟩
      have PR := Lib.hid (print_any (s := s') (HL.out.turn DT.out) DV.out (by omega) (by omega))
      have HPR := Lib.hid hpr
      clear hpr
      go_wp2_with fail
      refine PR.out.mono ?_
      rintro e w5 ⟨rfl, t5⟩
      have T5 := Lib.hid t5
      have D0b := (t5.block _ (heap_lt D0.out) (fun h => h)).trans D0.out
      simp only [scriptA] at D0b
      clear f0 f1 f2 f3 f4 f5 t5
      obtain ⟨f0, f1, f2, f3, f4, f5⟩ := cells6 D0b
      clear D0b
      rw [HPR.out]
      have PR2 := Lib.hid (refPrint_any (s := s') (DV.out.turn T5.out) (by omega) (by omega))
      go_wp2_with fail
      refine PR2.out.mono ?_
      rintro e w6 ⟨rfl, t6⟩
      have T6 := Lib.hid (T5.out.trans t6)
      rw [HPR.out]
      have D1b := (T6.out.block _ (heap_lt D1.out) (fun h => h)).trans D1.out
      have D0c := (T6.out.block _ (heap_lt D0.out) (fun h => h)).trans D0.out
      have D1c := Lib.hid D1b
      clear f0 f1 f2 f3 f4 f5 t6
      obtain ⟨d0, d1, d2, d3, d4, d5, d6⟩ := cells7 D1b
      clear D1b
      have W6 := Lib.hid (DT.out.trans T6.out)
      have DO := Lib.hid (drafted_own (tw := tw) (odd := odd) h0 h1 h2 ho (HM.out.turn W6.out) hl (HT.out.turn W6.out) hN)
      have D0d := Lib.hid D0c
      clear D0c
      go_wp2_with fail
      refine DO.out.mono ?_
      rintro e w7 ⟨s2, v2, rfl, hv2, hs1, hs2, t7, hown⟩
      obtain ⟨pv, cv, rfl⟩ := hv2.shape
      have E0 := (t7.block _ (heap_lt D0d.out) (fun h => h)).trans D0d.out
      simp only [scriptA] at E0 ⊢
      obtain ⟨f0, f1, f2, f3, f4, f5⟩ := cells6 E0
      have z0 := frozen_blk (o := 0) E0
      have z1 := frozen_blk (o := 1) E0
      have z2 := frozen_blk (o := 2) E0
      have z3 := frozen_blk (o := 3) E0
      have z4 := frozen_blk (o := 4) E0
      have z5 := frozen_blk (o := 5) E0
      have HPS2 := Lib.hid (PS.store (z := #[]) (W6.out.trans t7) (Nat.le_refl _) (by omega) E0 ((t7.block _ (heap_lt D1c.out) (fun h => h)).trans D1c.out) hv2 (fun j hj => by have := hown j hj; have := heap_lt D0d.out; omega) (by omega) hs2)
      clear d0 d1 d2 d3 d4 d5 d6 E0 hv2 hown t7
      go_wp2_with fail
      go_roundw
      case rel => exact ⟨q + 1, by omega, by go_num, HPS2.out⟩
      case measure => simp [intOf]; omega
    · have WA := Lib.hid (works_any (HL.out.turn DT.out) (HMX.out.turn DT.out) (HE.out.turn DT.out))
      go_wp2_with fail
      refine WA.out.mono ?_
      rintro e w9 ⟨rfl, t9⟩
      have T9 := Lib.hid t9
      clear t9
      go_wp2_with fail
      go_ret
      exact ⟨rfl, DT.out.trans T9.out⟩
end Go.Proofs.YtjnllclpdllceaaGreatDoor
