/- The document's walks: Text whole. The document's walks: Parse whole. Printed by gen_ym.py. The program's walks: NamesReads' body, by the contracts of what it calls. Printed by gen_yn.py. The program's walks: NamesReads whole; two bytes that came in. -/
import Derived.Test.YtpbjblbeepbklaaGreatDoorLb
import Derived.Test.YtpbjblbeepbklaaGreatDoorKw
import Derived.Lib.ConvBytes
import Derived.Test.YtpbjblbeepbklaaGreatDoorKu
namespace Go.Proofs.YtpbjblbeepbklaaGreatDoor
set_option linter.unusedSimpArgs false
set_option linter.unusedVariables false
section
open Go.RowKit Go.Shelf Go.Lib

set_option maxRecDepth 100000 in
set_option maxHeartbeats 16000000 in
/-- By what the text's triple is. -/
theorem rText_walk {w : World} {E T : EventD} {X : ByteArray} {b : Bool} {Y : ByteArray} {c : Int} (h : Gives w 48 #[.agg (evC E)] (.tuple #[.string X, .agg (evC T), .bool b])) (hyes : b = true → T = E → Y = X ∧ c = 0) (hno : b = false ∨ T ≠ E → Y = ⟨#[]⟩ ∧ c = 2) :
    Calls Tryz.prog 22 #[.agg (evC E)] w fun e w' => e = .returned (.tuple #[.string Y, .int .i64 c]) ∧ Turn Nn w w' := by
  obtain ⟨w1, e1⟩ : ∃ x, w.alloc (.cells (evC E) 34) = x := ⟨_, rfl⟩
  obtain ⟨b1, t1⟩ := alloc1 e1
  obtain ⟨n, hn⟩ : ∃ n, w.heap.size = n := ⟨_, rfl⟩
  rw [hn] at b1
  have B1 : Hid (EvAt w1 n E) := Lib.hid b1
  have T1 := Lib.hid t1
  obtain ⟨y0, y1, y2, y3, y4, y5, y6, y7, y8⟩ := evCells B1.out
  have hne := ev_neq T E
  obtain ⟨d, hd⟩ : ∃ d, decide (T = E) = d := ⟨_, rfl⟩
  simp only [hd] at hne
  have HD := Lib.hid hd
  have HNE := Lib.hid hne
  unfold evC at e1
  clear b1 t1 hd hne
  conv => arg 3; unfold evC
  go_enter Tryz.func22, Tryz.ntmps22
  go_wp2_with fail
  refine (h _ T1.out).mono ?_
  rintro e w2 ⟨rfl, t⟩
  have T2 := Lib.hid (T1.out.trans t)
  have B2 := Lib.hid (B1.out.turn t)
  clear t y0 y1 y2 y3 y4 y5 y6 y7 y8
  obtain ⟨q, bb, cc, hq, eb, Bb, ec, Bc, tb, tc⟩ := evbox w2 T
  have fc : (((((((((bb.setCell ⟨q, 0, none⟩ (.int .i64 (T.kind))).setCell ⟨q, 1, none⟩ (.int .i64 (T.slot))).setCell ⟨q, 2, none⟩ (.string (BT T.actor))).setCell ⟨q, 3, none⟩ (.int .i64 (T.pc))).setCell ⟨q, 4, none⟩ (.string (BT T.chan))).setCell ⟨q, 5, none⟩ (.int .i64 (T.side))).setCell ⟨q, 6, none⟩ (.int .i64 (T.tag))).setCell ⟨q, 7, none⟩ (.int .i64 (T.word))).setCell ⟨q, 8, none⟩ (.string (BT T.name))) = cc := ec
  obtain ⟨y0, y1, y2, y3, y4, y5, y6, y7, y8⟩ : bb.cell? ⟨q, 0, none⟩ = some (.int .i64 0) ∧ bb.cell? ⟨q, 1, none⟩ = some (.int .i64 0) ∧ bb.cell? ⟨q, 2, none⟩ = some (.string ⟨#[]⟩) ∧ bb.cell? ⟨q, 3, none⟩ = some (.int .i64 0) ∧ bb.cell? ⟨q, 4, none⟩ = some (.string ⟨#[]⟩) ∧ bb.cell? ⟨q, 5, none⟩ = some (.int .i64 0) ∧ bb.cell? ⟨q, 6, none⟩ = some (.int .i64 0) ∧ bb.cell? ⟨q, 7, none⟩ = some (.int .i64 0) ∧ bb.cell? ⟨q, 8, none⟩ = some (.string ⟨#[]⟩) := evCells Bb
  obtain ⟨z0, z1, z2, z3, z4, z5, z6, z7, z8⟩ := evFree Bb
  obtain ⟨x0, x1, x2, x3, x4, x5, x6, x7, x8⟩ := evCells Bc
  obtain ⟨v0, v1, v2, v3, v4, v5, v6, v7, v8⟩ := evCells (EvAt.turn B2.out tc)
  have T3 := Lib.hid (T2.out.trans tc)
  have hne := HNE.out
  clear Bb Bc ec tb tc
  unfold evC at hne ⊢
  cases b with
  | false =>
    obtain ⟨rfl, rfl⟩ := hno (.inl rfl)
    clear hno hyes
    go_wp2_with fail
    go_ret2
    exact ⟨rfl, T3.out⟩
  | true =>
    cases d with
    | false =>
      obtain ⟨rfl, rfl⟩ := hno (.inr (of_decide_eq_false HD.out))
      clear hno hyes
      go_wp2_with fail
      go_ret2
      exact ⟨rfl, T3.out⟩
    | true =>
      obtain ⟨rfl, rfl⟩ := hyes rfl (of_decide_eq_true HD.out)
      clear hno hyes
      go_wp2_with fail
      go_ret2
      exact ⟨rfl, T3.out⟩
theorem rText_any {E : EventD} (hs : ESmall E) (w : World) : Calls Tryz.prog 22 #[.agg (evC E)] w fun e w' => e = .returned (.tuple #[.string (BT (textC E).1), .int .i64 (textC E).2]) ∧ Turn Nn w w' := by
  have hr := ref_text (e := E) hs.ints
  unfold ansT at hr
  refine rText_walk (w := w) (E := E) (fun u _ => refText_any hs u) (fun h1 h2 => ?_) (fun h => ?_)
  · rw [if_pos ⟨h1, h2⟩] at hr
    rw [textC_some hr]
    exact ⟨rfl, rfl⟩
  · rw [if_neg (fun hh => by
      rcases h with h | h
      · rw [hh.1] at h; cases h
      · exact h hh.2)] at hr
    rw [textC_none hr]
    exact ⟨rfl, rfl⟩
end
section
open Go.RowKit Go.Shelf Go.Lib

structure PDoor (w W : World) (n q lb : Nat) (L : List Bs) (E : EventD) : Prop where
  res : EvAt W n zeroE
  ev : EvAt W q E
  ws : WAt W lb L
  low : Turn Nn w W
  gn : w.heap.size ≤ n
  gq : w.heap.size ≤ q
  nq : n ≠ q
  lq : lb ≠ q
theorem PDoor.turn {w W W' : World} {n q lb : Nat} {L : List Bs} {E : EventD} (D : PDoor w W n q lb L E) (t : Turn Nn W W') : PDoor w W' n q lb L E :=
  ⟨D.res.turn t, D.ev.turn t, D.ws.turn t, D.low.trans t, D.gn, D.gq, D.nq, D.lq⟩
theorem PDoor.set {w W : World} {n q lb : Nat} {L : List Bs} {E E' : EventD} (D : PDoor w W n q lb L E) (i : Nat) (v : Value) (he : (evC E).setIfInBounds i v = evC E') : PDoor w (W.setCell ⟨q, i, none⟩ v) n q lb L E' :=
  ⟨blk_set D.res D.nq, by have := heap_setCell_at D.ev i v; rw [he] at this; exact this, fun k hk => cell_at1 ((Turn.refl Nn W).at1 q |>.set1 i v) (D.ws k hk) D.lq, D.low.setCell (p := ⟨q, i, none⟩) (.inr D.gq) _, D.gn, D.gq, D.nq, D.lq⟩
theorem PDoor.fin {w W : World} {n q lb : Nat} {L : List Bs} {E : EventD} (D : PDoor w W n q lb L E) (F : EventD) : EvAt (set9 W n F) n F ∧ Turn Nn w (set9 W n F) :=
  ⟨set9_at D.res F, D.low.off (set9_turn (B := n) F) D.gn⟩
theorem PDoor.as {w W : World} {n q lb : Nat} {L : List Bs} {E E' : EventD} (D : PDoor w W n q lb L E) (h : E = E') : PDoor w W n q lb L E' := h ▸ D
theorem PDoor.word {w W : World} {n q lb : Nat} {L : List Bs} {E : EventD} (D : PDoor w W n q lb L E) (k : Nat) (hk : k < L.length) {X : ByteArray} (hX : BT (L[k]?.getD []) = X) : W.cell? ⟨lb, k, none⟩ = some (.string X) := by rw [← hX]; exact D.ws k hk
theorem res25 {W : World} {n : Nat} {F : EventD} {c : Int} {tmps : Array Value} (t2 : tmps[2]?.getD undef = .pointer (some ⟨n, 0, none⟩)) (t3 : tmps[3]?.getD undef = .int .i64 c) (h : EvAt W n F) :
    (results Tryz.f25 tmps).run Tryz.prog W = .ok (.tuple #[.agg (evC F), .int .i64 c]) W := by
  obtain ⟨y0, y1, y2, y3, y4, y5, y6, y7, y8⟩ := evCells h
  simp only [results, show Tryz.f25.results = #[.cell 2 34, .tmp 3] from rfl]
  unfold evC
  go_simp
set_option maxRecDepth 100000 in
set_option maxHeartbeats 16000000 in
theorem rparse_bad {w : World} {s : Bs} {L : List Bs} (hsp : spC 32 s = L) (hl : s.length ≤ 1100000) (h2 : 2 < L.length) (hlc : lastC 64 (L[1]?.getD []) = none) : Calls Tryz.prog 25 #[.string (BT s)] w fun e w' => e = .returned (.tuple #[.agg (evC zeroE), .int .i64 5]) ∧ Turn Nn w w' := by
  obtain ⟨V0, hV0⟩ : ∃ V, refWholeV (L[0]?.getD []) = V := ⟨_, rfl⟩
  obtain ⟨w1, e1⟩ : ∃ x, w.alloc (.cells #[.int .i64 0, .int .i64 0, .string ⟨#[]⟩, .int .i64 0, .string ⟨#[]⟩, .int .i64 0, .int .i64 0, .int .i64 0, .string ⟨#[]⟩] 34) = x := ⟨_, rfl⟩
  obtain ⟨b1, t1⟩ := alloc1 e1
  obtain ⟨n, hn⟩ : ∃ n, w.heap.size = n := ⟨_, rfl⟩
  rw [hn] at b1
  have R1 : Hid (EvAt w1 n zeroE ∧ Turn Nn w w1) := Lib.hid ⟨b1, t1⟩
  have HSP := fun w => Lib.hid (refSplit_any (l := s) (by omega) 32 w)
  have h32 : ((32 : UInt8).toNat : Int) = 32 := rfl
  simp only [hsp, h32] at HSP
  have HLX : Hid (∀ x ∈ L, x.length ≤ 1100000) := Lib.hid (fun x hx => by rw [← hsp] at hx; exact Nat.le_trans (spC_word_le 32 s x hx) hl)
  have HLN : Hid (L ≠ []) := Lib.hid (by rw [← hsp]; exact spC_ne 32 s)
  have HLL : Hid (L.length ≤ 1100001) := Lib.hid (by rw [← hsp]; have := spC_length 32 s; omega)
  have HK : ∀ k, Hid ((L[k]?.getD []).length ≤ 1100000) := fun k => Lib.hid (by
    by_cases hk : k < L.length
    · rw [List.getElem?_eq_getElem hk]; exact HLX.out _ (List.getElem_mem hk)
    · rw [List.getElem?_eq_none (by omega)]; decide)
  obtain ⟨X0, hX0⟩ : ∃ X, BT (L[0]?.getD []) = X := ⟨_, rfl⟩
  have HX0 := Lib.hid hX0
  obtain ⟨X1, hX1⟩ : ∃ X, BT (L[1]?.getD []) = X := ⟨_, rfl⟩
  have HX1 := Lib.hid hX1
  have HV0 := fun w => Lib.hid (refWhole_any (s := L[0]?.getD []) (by have := (HK 0).out; omega) w)
  simp only [hX0, hV0] at HV0
  have HLT := fun w => Lib.hid (refLast_any (l := L[1]?.getD []) (by have := (HK 1).out; omega) 64 w)
  have h64 : ((64 : UInt8).toNat : Int) = 64 := rfl
  simp only [hX1, h64, lastI_no hlc] at HLT
  obtain ⟨S0, hS0⟩ : ∃ S, BT s = S := ⟨_, rfl⟩
  simp only [hS0] at HSP
  rw [hS0]
  have HS0 := Lib.hid hS0
  clear hsp hl hX0 hX1 hlc hV0 b1 t1 h32 h64 hS0 HK HLX HLL
  go_enter Tryz.func25, Tryz.ntmps25
  go_wp2_with fail
  refine (HSP _).out.mono ?_
  rintro e w2 ⟨v2, rfl, o2⟩
  have O2 := Lib.hid o2
  obtain ⟨lb, cap, rfl, hcap, wat⟩ := o2.at0 HLN.out
  have WA2 := Lib.hid wat
  have HCAP := Lib.hid hcap
  obtain ⟨w3, e3⟩ : ∃ x, w2.alloc (.cells #[.int .i64 0, .int .i64 0, .string ⟨#[]⟩, .int .i64 0, .string ⟨#[]⟩, .int .i64 0, .int .i64 0, .int .i64 0, .string ⟨#[]⟩] 34) = x := ⟨_, rfl⟩
  obtain ⟨b3, t3⟩ := alloc1 e3
  obtain ⟨q, hq⟩ : ∃ q, w2.heap.size = q := ⟨_, rfl⟩
  rw [hq] at b3
  have hLpos : 0 < L.length := by have := HLN.out; cases L with
    | nil => exact absurd rfl this
    | cons a r => simp
  have hlb : lb < w2.heap.size := World.block_lt_of_cell? w2 ⟨lb, 0, none⟩ (wat 0 hLpos)
  have hnb : n < w1.heap.size := heap_lt R1.out.1
  have D3 : Hid (PDoor w w3 n q lb L zeroE) := Lib.hid ⟨(R1.out.1.turn o2.low).turn t3, b3, WA2.out.turn t3, (R1.out.2.trans o2.low).trans t3, by omega, by have h1 := (R1.out.2.trans o2.low).size; omega, by have h1 := o2.low.size; omega, by omega⟩
  obtain ⟨m, hm⟩ : ∃ m, L.length = m := ⟨_, rfl⟩
  have HL := Lib.hid hm
  have hcm : m ≤ cap := by omega
  have hm0 : (0 : Int) < (m : Int) := by omega
  have hm1 : (1 : Int) < (m : Int) := by omega
  have hm2 : (2 : Int) < (m : Int) := by omega
  rw [hm] at HCAP ⊢
  clear o2 wat b3 t3 hlb hnb hLpos hcap hm
  have x0 : w3.cell? ⟨lb, 0, none⟩ = some (.string X0) := D3.out.word 0 (by rw [HL.out]; omega) HX0.out
  go_wp2_with fail
  refine (HV0 _).out.mono ?_
  rintro e w4 ⟨⟨bw4, rfl⟩, t⟩
  have Dw4 := Lib.hid (D3.out.turn t)
  clear t
  have y1 : w4.cell? ⟨q, 1, none⟩ = some (.int .i64 (0)) := cell_blk Dw4.out.ev
  have z1 : w4.frozen? ⟨q, 1, none⟩ = false := frozen_blk Dw4.out.ev
  obtain ⟨w5, ew5⟩ : ∃ x, w4.setCell ⟨q, 1, none⟩ (.int .i64 V0) = x := ⟨_, rfl⟩
  have Dw5 : Hid (PDoor w w5 n q lb L ⟨0, V0, [], 0, [], 0, 0, 0, []⟩) := Lib.hid (by rw [← ew5]; exact Dw4.out.set 1 (.int .i64 V0) rfl)
  have x1 : w5.cell? ⟨lb, 1, none⟩ = some (.string X1) := Dw5.out.word 1 (by rw [HL.out]; omega) HX1.out
  clear x0
  go_wp2_with fail
  refine (HLT _).out.mono ?_
  rintro e wn ⟨rfl, rfl⟩
  have r0 : wn.cell? ⟨n, 0, none⟩ = some (.int .i64 (0)) := cell_blk Dw5.out.res
  have r1 : wn.cell? ⟨n, 1, none⟩ = some (.int .i64 (0)) := cell_blk Dw5.out.res
  have r2 : wn.cell? ⟨n, 2, none⟩ = some (.string ⟨#[]⟩) := cell_blk Dw5.out.res
  have r3 : wn.cell? ⟨n, 3, none⟩ = some (.int .i64 (0)) := cell_blk Dw5.out.res
  have r4 : wn.cell? ⟨n, 4, none⟩ = some (.string ⟨#[]⟩) := cell_blk Dw5.out.res
  have r5 : wn.cell? ⟨n, 5, none⟩ = some (.int .i64 (0)) := cell_blk Dw5.out.res
  have r6 : wn.cell? ⟨n, 6, none⟩ = some (.int .i64 (0)) := cell_blk Dw5.out.res
  have r7 : wn.cell? ⟨n, 7, none⟩ = some (.int .i64 (0)) := cell_blk Dw5.out.res
  have r8 : wn.cell? ⟨n, 8, none⟩ = some (.string ⟨#[]⟩) := cell_blk Dw5.out.res
  have f0 : wn.frozen? ⟨n, 0, none⟩ = false := frozen_blk Dw5.out.res
  have f1 : wn.frozen? ⟨n, 1, none⟩ = false := frozen_blk Dw5.out.res
  have f2 : wn.frozen? ⟨n, 2, none⟩ = false := frozen_blk Dw5.out.res
  have f3 : wn.frozen? ⟨n, 3, none⟩ = false := frozen_blk Dw5.out.res
  have f4 : wn.frozen? ⟨n, 4, none⟩ = false := frozen_blk Dw5.out.res
  have f5 : wn.frozen? ⟨n, 5, none⟩ = false := frozen_blk Dw5.out.res
  have f6 : wn.frozen? ⟨n, 6, none⟩ = false := frozen_blk Dw5.out.res
  have f7 : wn.frozen? ⟨n, 7, none⟩ = false := frozen_blk Dw5.out.res
  have f8 : wn.frozen? ⟨n, 8, none⟩ = false := frozen_blk Dw5.out.res
  obtain ⟨wr, ewr⟩ : ∃ x, set9 wn n zeroE = x := ⟨_, rfl⟩
  have FR : Hid (EvAt wr n zeroE ∧ Turn Nn w wr) := Lib.hid (by have h := Dw5.out.fin zeroE; rw [ewr] at h; exact h)
  have fwr : (((((((((wn.setCell ⟨n, 0, none⟩ (.int .i64 (0))).setCell ⟨n, 1, none⟩ (.int .i64 (0))).setCell ⟨n, 2, none⟩ (.string ⟨#[]⟩)).setCell ⟨n, 3, none⟩ (.int .i64 (0))).setCell ⟨n, 4, none⟩ (.string ⟨#[]⟩)).setCell ⟨n, 5, none⟩ (.int .i64 (0))).setCell ⟨n, 6, none⟩ (.int .i64 (0))).setCell ⟨n, 7, none⟩ (.int .i64 (0))).setCell ⟨n, 8, none⟩ (.string ⟨#[]⟩)) = wr := ewr
  clear ewr
  go_wp2_with fail
  exact bodyPost_ret (res25 rfl rfl FR.out.1) rfl ⟨rfl, FR.out.2⟩
set_option maxRecDepth 100000 in
set_option maxHeartbeats 40000000 in
theorem rparse_good {w : World} {s : Bs} {L : List Bs} (hsp : spC 32 s = L) (hl : s.length ≤ 1100000) {E1 E2 E3 : EventD} {T : ByteArray} {c : Int} {A P : Bs} {V0 VP K W3 W5 : Int}
    (hV0 : refWholeV (L[0]?.getD []) = V0) (hVP : refWholeV P = VP) (hK : kindOf (L[2]?.getD []) = K) (hW3 : refWholeV (L[3]?.getD []) = W3) (hW5 : refWholeV (L[5]?.getD []) = W5)
    (h1 : L.length ≤ 2 ∧ E1 = slotE V0 ∨ 2 < L.length ∧ lastC 64 (L[1]?.getD []) = some (A, P) ∧ E1 = ⟨K, V0, A, VP, [], 0, 0, 0, []⟩)
    (h2 : E2 = if 3 < L.length then guess3 E1 (L[3]?.getD []) else E1) (h3 : E3 = if 5 < L.length then guess5 E2 (L[4]?.getD []) (L[5]?.getD []) else E2)
    (hT : Gives w 22 #[.agg (evC E3)] (.tuple #[.string T, .int .i64 c])) (hc : c = 0 ∧ T = BT s ∨ c = 0 ∧ (T.toList == (BT s).toList) = false ∨ c ≠ 0) :
    Calls Tryz.prog 25 #[.string (BT s)] w fun e w' => e = .returned (.tuple (if c = 0 ∧ T = BT s then #[.agg (evC E3), .int .i64 0] else #[.agg (evC zeroE), .int .i64 5])) ∧ Turn Nn w w' := by
  obtain ⟨w1, e1⟩ : ∃ x, w.alloc (.cells #[.int .i64 0, .int .i64 0, .string ⟨#[]⟩, .int .i64 0, .string ⟨#[]⟩, .int .i64 0, .int .i64 0, .int .i64 0, .string ⟨#[]⟩] 34) = x := ⟨_, rfl⟩
  obtain ⟨b1, t1⟩ := alloc1 e1
  obtain ⟨n, hn⟩ : ∃ n, w.heap.size = n := ⟨_, rfl⟩
  rw [hn] at b1
  have R1 : Hid (EvAt w1 n zeroE ∧ Turn Nn w w1) := Lib.hid ⟨b1, t1⟩
  have HSP := fun w => Lib.hid (refSplit_any (l := s) (by omega) 32 w)
  have h32 : ((32 : UInt8).toNat : Int) = 32 := rfl
  simp only [hsp, h32] at HSP
  have HLX : Hid (∀ x ∈ L, x.length ≤ 1100000) := Lib.hid (fun x hx => by rw [← hsp] at hx; exact Nat.le_trans (spC_word_le 32 s x hx) hl)
  have HLN : Hid (L ≠ []) := Lib.hid (by rw [← hsp]; exact spC_ne 32 s)
  have HLL : Hid (L.length ≤ 1100001) := Lib.hid (by rw [← hsp]; have := spC_length 32 s; omega)
  have HK : ∀ k, Hid ((L[k]?.getD []).length ≤ 1100000) := fun k => Lib.hid (by
    by_cases hk : k < L.length
    · rw [List.getElem?_eq_getElem hk]; exact HLX.out _ (List.getElem_mem hk)
    · rw [List.getElem?_eq_none (by omega)]; decide)
  obtain ⟨X0, hX0⟩ : ∃ X, BT (L[0]?.getD []) = X := ⟨_, rfl⟩
  have HX0 := Lib.hid hX0
  obtain ⟨X1, hX1⟩ : ∃ X, BT (L[1]?.getD []) = X := ⟨_, rfl⟩
  have HX1 := Lib.hid hX1
  obtain ⟨X2, hX2⟩ : ∃ X, BT (L[2]?.getD []) = X := ⟨_, rfl⟩
  have HX2 := Lib.hid hX2
  obtain ⟨X3, hX3⟩ : ∃ X, BT (L[3]?.getD []) = X := ⟨_, rfl⟩
  have HX3 := Lib.hid hX3
  obtain ⟨X4, hX4⟩ : ∃ X, BT (L[4]?.getD []) = X := ⟨_, rfl⟩
  have HX4 := Lib.hid hX4
  obtain ⟨X5, hX5⟩ : ∃ X, BT (L[5]?.getD []) = X := ⟨_, rfl⟩
  have HX5 := Lib.hid hX5
  have HV0 := fun w => Lib.hid (refWhole_any (s := L[0]?.getD []) (by have := (HK 0).out; omega) w)
  simp only [hX0, hV0] at HV0
  have HW3 := fun w => Lib.hid (refWhole_any (s := L[3]?.getD []) (by have := (HK 3).out; omega) w)
  simp only [hX3, hW3] at HW3
  have HW5 := fun w => Lib.hid (refWhole_any (s := L[5]?.getD []) (by have := (HK 5).out; omega) w)
  simp only [hX5, hW5] at HW5
  have HKD := fun w => Lib.hid (kind_any (L[2]?.getD []) w)
  simp only [hX2, hK] at HKD
  have HT := Lib.hid hT
  unfold evC at HT
  have HEN := fun w => Lib.hid (refEnd_any (l := L[3]?.getD []) (by have := (HK 3).out; omega) w)
  simp only [hX3] at HEN
  have H1 := Lib.hid h1
  have H2 := Lib.hid h2
  have H3 := Lib.hid h3
  have HLT := fun w => Lib.hid (refLast_any (l := L[1]?.getD []) (by have := (HK 1).out; omega) 64 w)
  have h64 : ((64 : UInt8).toNat : Int) = 64 := rfl
  simp only [hX1, h64] at HLT
  have HCUT : Hid (∀ a r : Bs, lastC 64 (L[1]?.getD []) = some (a, r) → a.length + 1 + r.length ≤ 1100000 ∧ lastI 64 (L[1]?.getD []) = (a.length : Int) ∧ X1.size = a.length + 1 + r.length ∧ X1.extract 0 a.length = BT a ∧ X1.extract (a.length + 1) X1.size = BT r) := Lib.hid (fun a r h => by
    obtain ⟨hi, he⟩ := lastI_some h
    have hk := (HK 1).out
    have hsz : X1.size = (L[1]?.getD []).length := by rw [← hX1]; exact BT_size _
    have hll : (L[1]?.getD []).length = a.length + 1 + r.length := by rw [he]; simp; omega
    refine ⟨by omega, hi, by omega, ?_, ?_⟩
    · rw [← hX1, he]; exact BT_cat_take _ _
    · rw [← hX1, he]; exact BT_cat_drop _ _ _)
  have HVP := Lib.hid hVP
  have HW3E := Lib.hid hW3
  have HW5E := Lib.hid hW5
  obtain ⟨S0, hS0⟩ : ∃ S, BT s = S := ⟨_, rfl⟩
  simp only [hS0] at HSP
  rw [hS0]
  have HS0 := Lib.hid hS0
  rw [hS0] at hc
  have HC := Lib.hid hc
  clear hsp hl hX0 hX1 hX2 hX3 hX4 hX5 hV0 hVP hK hW3 hW5 b1 t1 h32 h64 hS0 hT h1 h2 h3 hc HK HLX HLL
  go_enter Tryz.func25, Tryz.ntmps25
  go_wp2_with fail
  refine (HSP _).out.mono ?_
  rintro e w2 ⟨v2, rfl, o2⟩
  have O2 := Lib.hid o2
  obtain ⟨lb, cap, rfl, hcap, wat⟩ := o2.at0 HLN.out
  have WA2 := Lib.hid wat
  have HCAP := Lib.hid hcap
  obtain ⟨w3, e3⟩ : ∃ x, w2.alloc (.cells #[.int .i64 0, .int .i64 0, .string ⟨#[]⟩, .int .i64 0, .string ⟨#[]⟩, .int .i64 0, .int .i64 0, .int .i64 0, .string ⟨#[]⟩] 34) = x := ⟨_, rfl⟩
  obtain ⟨b3, t3⟩ := alloc1 e3
  obtain ⟨q, hq⟩ : ∃ q, w2.heap.size = q := ⟨_, rfl⟩
  rw [hq] at b3
  have hLpos : 0 < L.length := by have := HLN.out; cases L with
    | nil => exact absurd rfl this
    | cons a r => simp
  have hlb : lb < w2.heap.size := World.block_lt_of_cell? w2 ⟨lb, 0, none⟩ (wat 0 hLpos)
  have hnb : n < w1.heap.size := heap_lt R1.out.1
  have D3 : Hid (PDoor w w3 n q lb L zeroE) := Lib.hid ⟨(R1.out.1.turn o2.low).turn t3, b3, WA2.out.turn t3, (R1.out.2.trans o2.low).trans t3, by omega, by have h1 := (R1.out.2.trans o2.low).size; omega, by have h1 := o2.low.size; omega, by omega⟩
  obtain ⟨m, hm⟩ : ∃ m, L.length = m := ⟨_, rfl⟩
  have HL := Lib.hid hm
  have hcm : m ≤ cap := by omega
  have hm0 : (0 : Int) < (m : Int) := by omega
  rw [hm] at HCAP ⊢
  clear o2 wat b3 t3 hlb hnb hLpos hcap hm
  have x0 : w3.cell? ⟨lb, 0, none⟩ = some (.string X0) := D3.out.word 0 (by rw [HL.out]; omega) HX0.out
  go_wp2_with fail
  refine (HV0 _).out.mono ?_
  rintro e w4 ⟨⟨bw4, rfl⟩, t⟩
  have Dw4 := Lib.hid (D3.out.turn t)
  clear t
  have y1 : w4.cell? ⟨q, 1, none⟩ = some (.int .i64 (0)) := cell_blk Dw4.out.ev
  have z1 : w4.frozen? ⟨q, 1, none⟩ = false := frozen_blk Dw4.out.ev
  obtain ⟨w5, ew5⟩ : ∃ x, w4.setCell ⟨q, 1, none⟩ (.int .i64 V0) = x := ⟨_, rfl⟩
  have Dw5 : Hid (PDoor w w5 n q lb L ⟨0, V0, [], 0, [], 0, 0, 0, []⟩) := Lib.hid (by rw [← ew5]; exact Dw4.out.set 1 (.int .i64 V0) rfl)
  clear x0
  go_upto_if 26 with (fail)
  clear y1 z1 e1 e3 ew5 hn hq
  go_cut [] from 24 (fun wx => PDoor w wx n q lb L E1)
  case first =>
    rcases H1.out with ⟨hlen, he1⟩ | ⟨hlen, hlc, he1⟩
    · have hm2 : ¬ (2 : Int) < (m : Int) := by have := HL.out; omega
      go_wp2_with fail
      go_meet
      case rel => exact Dw5.out.as he1.symm
    · have hm1 : (1 : Int) < (m : Int) := by have := HL.out; omega
      have hm2 : (2 : Int) < (m : Int) := by have := HL.out; omega
      obtain ⟨hb, hli, hsz, c1, c2⟩ := HCUT.out A P hlc
      rw [hli] at HLT
      have HPC := fun w => Lib.hid (refWhole_any (s := P) (by omega) w)
      simp only [HVP.out] at HPC
      obtain ⟨na, hna⟩ : ∃ k, A.length = k := ⟨_, rfl⟩
      obtain ⟨PB, hPB⟩ : ∃ b, BT P = b := ⟨_, rfl⟩
      rw [hna] at HLT c1 c2 hsz hb
      rw [hPB] at c2 HPC
      have hn1 : na + 1 ≤ X1.size := by omega
      have hn2 : X1.size ≤ 1100000 := by omega
      have HE1 := Lib.hid he1
      clear hli hsz hna hPB hb hlc hlen he1
      have x1 : w5.cell? ⟨lb, 1, none⟩ = some (.string X1) := Dw5.out.word 1 (by rw [HL.out]; omega) HX1.out
      go_wp2_with fail
      refine (HLT _).out.mono ?_
      rintro e wn ⟨rfl, rfl⟩
      go_wp2_with fail
      refine (HPC _).out.mono ?_
      rintro e w6 ⟨⟨bw6, rfl⟩, t⟩
      have Dw6 := Lib.hid (Dw5.out.turn t)
      clear t
      clear x1
      have x1 : w6.cell? ⟨lb, 1, none⟩ = some (.string X1) := Dw6.out.word 1 (by rw [HL.out]; omega) HX1.out
      have y2 : w6.cell? ⟨q, 2, none⟩ = some (.string ⟨#[]⟩) := cell_blk Dw6.out.ev
      have z2 : w6.frozen? ⟨q, 2, none⟩ = false := frozen_blk Dw6.out.ev
      obtain ⟨w7, ew7⟩ : ∃ x, w6.setCell ⟨q, 2, none⟩ (.string (BT A)) = x := ⟨_, rfl⟩
      have Dw7 : Hid (PDoor w w7 n q lb L ⟨0, V0, A, 0, [], 0, 0, 0, []⟩) := Lib.hid (by rw [← ew7]; exact Dw6.out.set 2 (.string (BT A)) rfl)
      have y3 : w7.cell? ⟨q, 3, none⟩ = some (.int .i64 (0)) := cell_blk Dw7.out.ev
      have z3 : w7.frozen? ⟨q, 3, none⟩ = false := frozen_blk Dw7.out.ev
      obtain ⟨w8, ew8⟩ : ∃ x, w7.setCell ⟨q, 3, none⟩ (.int .i64 VP) = x := ⟨_, rfl⟩
      have Dw8 : Hid (PDoor w w8 n q lb L ⟨0, V0, A, VP, [], 0, 0, 0, []⟩) := Lib.hid (by rw [← ew8]; exact Dw7.out.set 3 (.int .i64 VP) rfl)
      have x2 : w8.cell? ⟨lb, 2, none⟩ = some (.string X2) := Dw8.out.word 2 (by rw [HL.out]; omega) HX2.out
      go_wp2_with fail
      refine (HKD _).out.mono ?_
      rintro e w9 ⟨rfl, t⟩
      have D9 := Lib.hid (Dw8.out.turn t)
      clear t
      have y0 : w9.cell? ⟨q, 0, none⟩ = some (.int .i64 (0)) := cell_blk D9.out.ev
      have z0 : w9.frozen? ⟨q, 0, none⟩ = false := frozen_blk D9.out.ev
      obtain ⟨w10, ew10⟩ : ∃ x, w9.setCell ⟨q, 0, none⟩ (.int .i64 K) = x := ⟨_, rfl⟩
      have Dw10 : Hid (PDoor w w10 n q lb L ⟨K, V0, A, VP, [], 0, 0, 0, []⟩) := Lib.hid (by rw [← ew10]; exact D9.out.set 0 (.int .i64 K) rfl)
      go_wp2_with fail
      go_meet
      case rel => exact Dw10.out.as HE1.out.symm
  case rest =>
    have D1 := Lib.hid hcut
    clear hcut Dw5 Dw4 D3 R1 H1 HLT HCUT HVP HKD
    go_upto_if 59 with (fail)
    go_cut [] from 57 (fun wx => PDoor w wx n q lb L E2)
    case first =>
      by_cases hlen : 3 < L.length
      · have hm3 : (3 : Int) < (m : Int) := by have := HL.out; omega
        have he2 := H2.out
        rw [if_pos hlen] at he2
        unfold guess3 at he2
        have y0 : wc.cell? ⟨q, 0, none⟩ = some (.int .i64 E1.kind) := cell_blk D1.out.ev
        clear hlen
        by_cases k4 : E1.kind = 4
        · rw [if_pos k4, HW3E.out] at he2
          have HE2 := Lib.hid he2
          clear he2
          rw [k4] at y0
          have x3 : wc.cell? ⟨lb, 3, none⟩ = some (.string X3) := D1.out.word 3 (by rw [HL.out]; omega) HX3.out
          clear k4
          go_wp2_with fail
          refine (HW3 _).out.mono ?_
          rintro e w6 ⟨⟨bw6, rfl⟩, t⟩
          have Dw6 := Lib.hid (D1.out.turn t)
          clear t
          have y7 : w6.cell? ⟨q, 7, none⟩ = some (.int .i64 (E1.word)) := cell_blk Dw6.out.ev
          have z7 : w6.frozen? ⟨q, 7, none⟩ = false := frozen_blk Dw6.out.ev
          obtain ⟨w7, ew7⟩ : ∃ x, w6.setCell ⟨q, 7, none⟩ (.int .i64 W3) = x := ⟨_, rfl⟩
          have Dw7 : Hid (PDoor w w7 n q lb L ⟨E1.kind, E1.slot, E1.actor, E1.pc, E1.chan, E1.side, E1.tag, W3, E1.name⟩) := Lib.hid (by rw [← ew7]; exact Dw6.out.set 7 (.int .i64 W3) rfl)
          clear y0
          go_wp2_with fail
          go_meet
          case rel => exact Dw7.out.as HE2.out.symm
        rw [if_neg k4] at he2
        have hk4 : (E1.kind == 4) = false := by simp [k4]
        by_cases k5 : E1.kind = 5
        · rw [if_pos k5] at he2
          have HE2 := Lib.hid he2
          clear he2 hk4
          rw [k5] at y0
          have x3 : wc.cell? ⟨lb, 3, none⟩ = some (.string X3) := D1.out.word 3 (by rw [HL.out]; omega) HX3.out
          have y4 : wc.cell? ⟨q, 4, none⟩ = some (.string (BT (E1.chan))) := cell_blk D1.out.ev
          have z4 : wc.frozen? ⟨q, 4, none⟩ = false := frozen_blk D1.out.ev
          obtain ⟨w7, ew7⟩ : ∃ x, wc.setCell ⟨q, 4, none⟩ (.string (BT (L[3]?.getD []))) = x := ⟨_, rfl⟩
          have Dw7 : Hid (PDoor w w7 n q lb L ⟨E1.kind, E1.slot, E1.actor, E1.pc, L[3]?.getD [], E1.side, E1.tag, E1.word, E1.name⟩) := Lib.hid (by rw [← ew7]; exact D1.out.set 4 (.string (BT (L[3]?.getD []))) rfl)
          rw [HX3.out] at ew7
          clear k4 k5
          go_wp2_with fail
          go_meet
          case rel => exact Dw7.out.as HE2.out.symm
        rw [if_neg k5] at he2
        have hk5 : (E1.kind == 5) = false := by simp [k5]
        by_cases k6 : E1.kind = 6
        · rw [if_pos k6] at he2
          have HE2 := Lib.hid he2
          clear he2 hk4 hk5
          rw [k6] at y0
          have x3 : wc.cell? ⟨lb, 3, none⟩ = some (.string X3) := D1.out.word 3 (by rw [HL.out]; omega) HX3.out
          have y8 : wc.cell? ⟨q, 8, none⟩ = some (.string (BT (E1.name))) := cell_blk D1.out.ev
          have z8 : wc.frozen? ⟨q, 8, none⟩ = false := frozen_blk D1.out.ev
          obtain ⟨w7, ew7⟩ : ∃ x, wc.setCell ⟨q, 8, none⟩ (.string (BT (L[3]?.getD []))) = x := ⟨_, rfl⟩
          have Dw7 : Hid (PDoor w w7 n q lb L ⟨E1.kind, E1.slot, E1.actor, E1.pc, E1.chan, E1.side, E1.tag, E1.word, L[3]?.getD []⟩) := Lib.hid (by rw [← ew7]; exact D1.out.set 8 (.string (BT (L[3]?.getD []))) rfl)
          rw [HX3.out] at ew7
          clear k4 k5 k6
          go_wp2_with fail
          go_meet
          case rel => exact Dw7.out.as HE2.out.symm
        rw [if_neg k6] at he2
        have hk6 : (E1.kind == 6) = false := by simp [k6]
        obtain ⟨C3, s3, hen, he2'⟩ : ∃ C3 s3, (∃ z, endA (L[3]?.getD []) = #[.string (BT C3), .int .i64 s3, .bool z]) ∧ E2 = ⟨E1.kind, E1.slot, E1.actor, E1.pc, C3, s3, E1.tag, E1.word, E1.name⟩ := by
          cases hE : endL (L[3]?.getD []) with
          | none => rw [hE] at he2; exact ⟨[], 0, ⟨_, endA_none hE⟩, he2⟩
          | some x => obtain ⟨c0, n0⟩ := x; rw [hE] at he2; exact ⟨c0, n0, ⟨_, endA_some hE⟩, he2⟩
        obtain ⟨zz, hen⟩ := hen
        simp only [hen] at HEN
        have HE2 := Lib.hid he2'
        clear he2 he2' hen k4 k5 k6
        have x3 : wc.cell? ⟨lb, 3, none⟩ = some (.string X3) := D1.out.word 3 (by rw [HL.out]; omega) HX3.out
        go_wp2_with fail
        refine (HEN _).out.mono ?_
        rintro e w6 ⟨rfl, t⟩
        have D6 := Lib.hid (D1.out.turn t)
        clear t
        have y4 : w6.cell? ⟨q, 4, none⟩ = some (.string (BT (E1.chan))) := cell_blk D6.out.ev
        have z4 : w6.frozen? ⟨q, 4, none⟩ = false := frozen_blk D6.out.ev
        obtain ⟨w7, ew7⟩ : ∃ x, w6.setCell ⟨q, 4, none⟩ (.string (BT C3)) = x := ⟨_, rfl⟩
        have Dw7 : Hid (PDoor w w7 n q lb L ⟨E1.kind, E1.slot, E1.actor, E1.pc, C3, E1.side, E1.tag, E1.word, E1.name⟩) := Lib.hid (by rw [← ew7]; exact D6.out.set 4 (.string (BT C3)) rfl)
        have y5 : w7.cell? ⟨q, 5, none⟩ = some (.int .i64 (E1.side)) := cell_blk Dw7.out.ev
        have z5 : w7.frozen? ⟨q, 5, none⟩ = false := frozen_blk Dw7.out.ev
        obtain ⟨w8, ew8⟩ : ∃ x, w7.setCell ⟨q, 5, none⟩ (.int .i64 s3) = x := ⟨_, rfl⟩
        have Dw8 : Hid (PDoor w w8 n q lb L ⟨E1.kind, E1.slot, E1.actor, E1.pc, C3, s3, E1.tag, E1.word, E1.name⟩) := Lib.hid (by rw [← ew8]; exact Dw7.out.set 5 (.int .i64 s3) rfl)
        clear y0
        go_wp2_with fail
        go_meet
        case rel => exact Dw8.out.as HE2.out.symm
      · have hm3 : ¬ (3 : Int) < (m : Int) := by have := HL.out; omega
        have he2 := H2.out
        rw [if_neg hlen] at he2
        have HE2 := Lib.hid he2
        clear he2 hlen
        go_wp2_with fail
        go_meet
        case rel => exact D1.out.as HE2.out.symm
    case rest =>
      have D2 := Lib.hid hcut
      clear hcut D1 H2 HEN
      go_upto_if 96 with (fail)
      go_cut [] from 94 (fun wx => PDoor w wx n q lb L E3)
      case first =>
        by_cases hlen : 5 < L.length
        · have hm4 : (4 : Int) < (m : Int) := by have := HL.out; omega
          have hm5 : (5 : Int) < (m : Int) := by have := HL.out; omega
          have he3 := H3.out
          rw [if_pos hlen] at he3
          unfold guess5 at he3
          clear hlen
          have x4 : wc.cell? ⟨lb, 4, none⟩ = some (.string X4) := D2.out.word 4 (by rw [HL.out]; omega) HX4.out
          by_cases k4 : L[4]?.getD [] = wWord
          · rw [if_pos k4, HW5E.out] at he3
            have HE3 := Lib.hid he3
            have hx4 : X4 = ⟨#[119, 111, 114, 100]⟩ := by rw [← HX4.out, k4]; rfl
            rw [hx4] at x4
            have x5 : wc.cell? ⟨lb, 5, none⟩ = some (.string X5) := D2.out.word 5 (by rw [HL.out]; omega) HX5.out
            clear k4 hx4 he3
            go_wp2_with fail
            refine (HW5 _).out.mono ?_
            rintro e w6 ⟨⟨bw6, rfl⟩, t⟩
            have Dw6 := Lib.hid (D2.out.turn t)
            clear t
            have y7 : w6.cell? ⟨q, 7, none⟩ = some (.int .i64 (E2.word)) := cell_blk Dw6.out.ev
            have z7 : w6.frozen? ⟨q, 7, none⟩ = false := frozen_blk Dw6.out.ev
            obtain ⟨w7, ew7⟩ : ∃ x, w6.setCell ⟨q, 7, none⟩ (.int .i64 W5) = x := ⟨_, rfl⟩
            have Dw7 : Hid (PDoor w w7 n q lb L ⟨E2.kind, E2.slot, E2.actor, E2.pc, E2.chan, E2.side, E2.tag, W5, E2.name⟩) := Lib.hid (by rw [← ew7]; exact Dw6.out.set 7 (.int .i64 W5) rfl)
            clear x4 x5
            go_wp2_with fail
            go_meet
            case rel => exact Dw7.out.as HE3.out.symm
          rw [if_neg k4] at he3
          have hk4 : (X4.toList == [119, 111, 114, 100]) = false := by rw [← HX4.out, show ([119, 111, 114, 100] : List UInt8) = (BT wWord).toList from (BT_toList wWord).symm, beqB]; exact decide_eq_false k4
          by_cases k5 : L[4]?.getD [] = wLabel
          · rw [if_pos k5, HW5E.out] at he3
            have HE3 := Lib.hid he3
            have hx4 : X4 = ⟨#[108, 97, 98, 101, 108]⟩ := by rw [← HX4.out, k5]; rfl
            rw [hx4] at x4
            have x5 : wc.cell? ⟨lb, 5, none⟩ = some (.string X5) := D2.out.word 5 (by rw [HL.out]; omega) HX5.out
            clear k4 k5 hk4 hx4 he3
            have y6 : wc.cell? ⟨q, 6, none⟩ = some (.int .i64 (E2.tag)) := cell_blk D2.out.ev
            have z6 : wc.frozen? ⟨q, 6, none⟩ = false := frozen_blk D2.out.ev
            obtain ⟨w5, ew5⟩ : ∃ x, wc.setCell ⟨q, 6, none⟩ (.int .i64 1) = x := ⟨_, rfl⟩
            have Dw5 : Hid (PDoor w w5 n q lb L ⟨E2.kind, E2.slot, E2.actor, E2.pc, E2.chan, E2.side, 1, E2.word, E2.name⟩) := Lib.hid (by rw [← ew5]; exact D2.out.set 6 (.int .i64 1) rfl)
            have x55 : w5.cell? ⟨lb, 5, none⟩ = some (.string X5) := Dw5.out.word 5 (by rw [HL.out]; omega) HX5.out
            go_wp2_with fail
            refine (HW5 _).out.mono ?_
            rintro e w6 ⟨⟨bw6, rfl⟩, t⟩
            have Dw6 := Lib.hid (Dw5.out.turn t)
            clear t
            have y7 : w6.cell? ⟨q, 7, none⟩ = some (.int .i64 (E2.word)) := cell_blk Dw6.out.ev
            have z7 : w6.frozen? ⟨q, 7, none⟩ = false := frozen_blk Dw6.out.ev
            obtain ⟨w7, ew7⟩ : ∃ x, w6.setCell ⟨q, 7, none⟩ (.int .i64 W5) = x := ⟨_, rfl⟩
            have Dw7 : Hid (PDoor w w7 n q lb L ⟨E2.kind, E2.slot, E2.actor, E2.pc, E2.chan, E2.side, 1, W5, E2.name⟩) := Lib.hid (by rw [← ew7]; exact Dw6.out.set 7 (.int .i64 W5) rfl)
            clear x4 x5 x55
            go_wp2_with fail
            go_meet
            case rel => exact Dw7.out.as HE3.out.symm
          rw [if_neg k5] at he3
          have hk5 : (X4.toList == [108, 97, 98, 101, 108]) = false := by rw [← HX4.out, show ([108, 97, 98, 101, 108] : List UInt8) = (BT wLabel).toList from (BT_toList wLabel).symm, beqB]; exact decide_eq_false k5
          have HE3 := Lib.hid he3
          clear k4 k5 he3
          have y6 : wc.cell? ⟨q, 6, none⟩ = some (.int .i64 (E2.tag)) := cell_blk D2.out.ev
          have z6 : wc.frozen? ⟨q, 6, none⟩ = false := frozen_blk D2.out.ev
          obtain ⟨w5, ew5⟩ : ∃ x, wc.setCell ⟨q, 6, none⟩ (.int .i64 2) = x := ⟨_, rfl⟩
          have Dw5 : Hid (PDoor w w5 n q lb L ⟨E2.kind, E2.slot, E2.actor, E2.pc, E2.chan, E2.side, 2, E2.word, E2.name⟩) := Lib.hid (by rw [← ew5]; exact D2.out.set 6 (.int .i64 2) rfl)
          have x5 : w5.cell? ⟨lb, 5, none⟩ = some (.string X5) := Dw5.out.word 5 (by rw [HL.out]; omega) HX5.out
          have y8 : w5.cell? ⟨q, 8, none⟩ = some (.string (BT (E2.name))) := cell_blk Dw5.out.ev
          have z8 : w5.frozen? ⟨q, 8, none⟩ = false := frozen_blk Dw5.out.ev
          obtain ⟨w7, ew7⟩ : ∃ x, w5.setCell ⟨q, 8, none⟩ (.string (BT (L[5]?.getD []))) = x := ⟨_, rfl⟩
          have Dw7 : Hid (PDoor w w7 n q lb L ⟨E2.kind, E2.slot, E2.actor, E2.pc, E2.chan, E2.side, 2, E2.word, L[5]?.getD []⟩) := Lib.hid (by rw [← ew7]; exact Dw5.out.set 8 (.string (BT (L[5]?.getD []))) rfl)
          rw [HX5.out] at ew7
          go_wp2_with fail
          go_meet
          case rel => exact Dw7.out.as HE3.out.symm
        · have hm5 : ¬ (5 : Int) < (m : Int) := by have := HL.out; omega
          have he3 := H3.out
          rw [if_neg hlen] at he3
          have HE3 := Lib.hid he3
          clear he3 hlen
          go_wp2_with fail
          go_meet
          case rel => exact D2.out.as HE3.out.symm
      case rest =>
        have D3 := Lib.hid hcut
        clear hcut D2 H3
        have y0 : wc.cell? ⟨q, 0, none⟩ = some (.int .i64 (E3.kind)) := cell_blk D3.out.ev
        have y1 : wc.cell? ⟨q, 1, none⟩ = some (.int .i64 (E3.slot)) := cell_blk D3.out.ev
        have y2 : wc.cell? ⟨q, 2, none⟩ = some (.string (BT (E3.actor))) := cell_blk D3.out.ev
        have y3 : wc.cell? ⟨q, 3, none⟩ = some (.int .i64 (E3.pc)) := cell_blk D3.out.ev
        have y4 : wc.cell? ⟨q, 4, none⟩ = some (.string (BT (E3.chan))) := cell_blk D3.out.ev
        have y5 : wc.cell? ⟨q, 5, none⟩ = some (.int .i64 (E3.side)) := cell_blk D3.out.ev
        have y6 : wc.cell? ⟨q, 6, none⟩ = some (.int .i64 (E3.tag)) := cell_blk D3.out.ev
        have y7 : wc.cell? ⟨q, 7, none⟩ = some (.int .i64 (E3.word)) := cell_blk D3.out.ev
        have y8 : wc.cell? ⟨q, 8, none⟩ = some (.string (BT (E3.name))) := cell_blk D3.out.ev
        go_wp2_with fail
        refine (HT.out _ D3.out.low).mono ?_
        rintro e w6 ⟨rfl, t⟩
        have D6 := Lib.hid (D3.out.turn t)
        clear t y0 y1 y2 y3 y4 y5 y6 y7 y8
        rcases HC.out with ⟨hc0, ht⟩ | ⟨hc0, ht⟩ | hc0
        · subst hc0
          subst ht
          have y0 : w6.cell? ⟨q, 0, none⟩ = some (.int .i64 (E3.kind)) := cell_blk D6.out.ev
          have y1 : w6.cell? ⟨q, 1, none⟩ = some (.int .i64 (E3.slot)) := cell_blk D6.out.ev
          have y2 : w6.cell? ⟨q, 2, none⟩ = some (.string (BT (E3.actor))) := cell_blk D6.out.ev
          have y3 : w6.cell? ⟨q, 3, none⟩ = some (.int .i64 (E3.pc)) := cell_blk D6.out.ev
          have y4 : w6.cell? ⟨q, 4, none⟩ = some (.string (BT (E3.chan))) := cell_blk D6.out.ev
          have y5 : w6.cell? ⟨q, 5, none⟩ = some (.int .i64 (E3.side)) := cell_blk D6.out.ev
          have y6 : w6.cell? ⟨q, 6, none⟩ = some (.int .i64 (E3.tag)) := cell_blk D6.out.ev
          have y7 : w6.cell? ⟨q, 7, none⟩ = some (.int .i64 (E3.word)) := cell_blk D6.out.ev
          have y8 : w6.cell? ⟨q, 8, none⟩ = some (.string (BT (E3.name))) := cell_blk D6.out.ev
          have r0 : w6.cell? ⟨n, 0, none⟩ = some (.int .i64 (0)) := cell_blk D6.out.res
          have r1 : w6.cell? ⟨n, 1, none⟩ = some (.int .i64 (0)) := cell_blk D6.out.res
          have r2 : w6.cell? ⟨n, 2, none⟩ = some (.string ⟨#[]⟩) := cell_blk D6.out.res
          have r3 : w6.cell? ⟨n, 3, none⟩ = some (.int .i64 (0)) := cell_blk D6.out.res
          have r4 : w6.cell? ⟨n, 4, none⟩ = some (.string ⟨#[]⟩) := cell_blk D6.out.res
          have r5 : w6.cell? ⟨n, 5, none⟩ = some (.int .i64 (0)) := cell_blk D6.out.res
          have r6 : w6.cell? ⟨n, 6, none⟩ = some (.int .i64 (0)) := cell_blk D6.out.res
          have r7 : w6.cell? ⟨n, 7, none⟩ = some (.int .i64 (0)) := cell_blk D6.out.res
          have r8 : w6.cell? ⟨n, 8, none⟩ = some (.string ⟨#[]⟩) := cell_blk D6.out.res
          have f0 : w6.frozen? ⟨n, 0, none⟩ = false := frozen_blk D6.out.res
          have f1 : w6.frozen? ⟨n, 1, none⟩ = false := frozen_blk D6.out.res
          have f2 : w6.frozen? ⟨n, 2, none⟩ = false := frozen_blk D6.out.res
          have f3 : w6.frozen? ⟨n, 3, none⟩ = false := frozen_blk D6.out.res
          have f4 : w6.frozen? ⟨n, 4, none⟩ = false := frozen_blk D6.out.res
          have f5 : w6.frozen? ⟨n, 5, none⟩ = false := frozen_blk D6.out.res
          have f6 : w6.frozen? ⟨n, 6, none⟩ = false := frozen_blk D6.out.res
          have f7 : w6.frozen? ⟨n, 7, none⟩ = false := frozen_blk D6.out.res
          have f8 : w6.frozen? ⟨n, 8, none⟩ = false := frozen_blk D6.out.res
          obtain ⟨wr, ewr⟩ : ∃ x, set9 w6 n E3 = x := ⟨_, rfl⟩
          have FR : Hid (EvAt wr n E3 ∧ Turn Nn w wr) := Lib.hid (by have h := D6.out.fin E3; rw [ewr] at h; exact h)
          have fwr : (((((((((w6.setCell ⟨n, 0, none⟩ (.int .i64 (E3.kind))).setCell ⟨n, 1, none⟩ (.int .i64 (E3.slot))).setCell ⟨n, 2, none⟩ (.string (BT (E3.actor)))).setCell ⟨n, 3, none⟩ (.int .i64 (E3.pc))).setCell ⟨n, 4, none⟩ (.string (BT (E3.chan)))).setCell ⟨n, 5, none⟩ (.int .i64 (E3.side))).setCell ⟨n, 6, none⟩ (.int .i64 (E3.tag))).setCell ⟨n, 7, none⟩ (.int .i64 (E3.word))).setCell ⟨n, 8, none⟩ (.string (BT (E3.name)))) = wr := ewr
          clear ewr
          go_wp2_with fail
          exact bodyPost_ret (res25 rfl rfl FR.out.1) rfl ⟨by first | rfl | rw [if_pos ⟨rfl, rfl⟩], FR.out.2⟩
        · subst hc0
          have hne : T ≠ S0 := by rintro rfl; simp at ht
          have r0 : w6.cell? ⟨n, 0, none⟩ = some (.int .i64 (0)) := cell_blk D6.out.res
          have r1 : w6.cell? ⟨n, 1, none⟩ = some (.int .i64 (0)) := cell_blk D6.out.res
          have r2 : w6.cell? ⟨n, 2, none⟩ = some (.string ⟨#[]⟩) := cell_blk D6.out.res
          have r3 : w6.cell? ⟨n, 3, none⟩ = some (.int .i64 (0)) := cell_blk D6.out.res
          have r4 : w6.cell? ⟨n, 4, none⟩ = some (.string ⟨#[]⟩) := cell_blk D6.out.res
          have r5 : w6.cell? ⟨n, 5, none⟩ = some (.int .i64 (0)) := cell_blk D6.out.res
          have r6 : w6.cell? ⟨n, 6, none⟩ = some (.int .i64 (0)) := cell_blk D6.out.res
          have r7 : w6.cell? ⟨n, 7, none⟩ = some (.int .i64 (0)) := cell_blk D6.out.res
          have r8 : w6.cell? ⟨n, 8, none⟩ = some (.string ⟨#[]⟩) := cell_blk D6.out.res
          have f0 : w6.frozen? ⟨n, 0, none⟩ = false := frozen_blk D6.out.res
          have f1 : w6.frozen? ⟨n, 1, none⟩ = false := frozen_blk D6.out.res
          have f2 : w6.frozen? ⟨n, 2, none⟩ = false := frozen_blk D6.out.res
          have f3 : w6.frozen? ⟨n, 3, none⟩ = false := frozen_blk D6.out.res
          have f4 : w6.frozen? ⟨n, 4, none⟩ = false := frozen_blk D6.out.res
          have f5 : w6.frozen? ⟨n, 5, none⟩ = false := frozen_blk D6.out.res
          have f6 : w6.frozen? ⟨n, 6, none⟩ = false := frozen_blk D6.out.res
          have f7 : w6.frozen? ⟨n, 7, none⟩ = false := frozen_blk D6.out.res
          have f8 : w6.frozen? ⟨n, 8, none⟩ = false := frozen_blk D6.out.res
          obtain ⟨wr, ewr⟩ : ∃ x, set9 w6 n zeroE = x := ⟨_, rfl⟩
          have FR : Hid (EvAt wr n zeroE ∧ Turn Nn w wr) := Lib.hid (by have h := D6.out.fin zeroE; rw [ewr] at h; exact h)
          have fwr : (((((((((w6.setCell ⟨n, 0, none⟩ (.int .i64 (0))).setCell ⟨n, 1, none⟩ (.int .i64 (0))).setCell ⟨n, 2, none⟩ (.string ⟨#[]⟩)).setCell ⟨n, 3, none⟩ (.int .i64 (0))).setCell ⟨n, 4, none⟩ (.string ⟨#[]⟩)).setCell ⟨n, 5, none⟩ (.int .i64 (0))).setCell ⟨n, 6, none⟩ (.int .i64 (0))).setCell ⟨n, 7, none⟩ (.int .i64 (0))).setCell ⟨n, 8, none⟩ (.string ⟨#[]⟩)) = wr := ewr
          clear ewr
          go_wp2_with fail
          exact bodyPost_ret (res25 rfl rfl FR.out.1) rfl ⟨by first | rfl | rw [if_neg (fun h => hne h.2)], FR.out.2⟩
        · have hb : (c == 0) = false := by simp [hc0]
          have r0 : w6.cell? ⟨n, 0, none⟩ = some (.int .i64 (0)) := cell_blk D6.out.res
          have r1 : w6.cell? ⟨n, 1, none⟩ = some (.int .i64 (0)) := cell_blk D6.out.res
          have r2 : w6.cell? ⟨n, 2, none⟩ = some (.string ⟨#[]⟩) := cell_blk D6.out.res
          have r3 : w6.cell? ⟨n, 3, none⟩ = some (.int .i64 (0)) := cell_blk D6.out.res
          have r4 : w6.cell? ⟨n, 4, none⟩ = some (.string ⟨#[]⟩) := cell_blk D6.out.res
          have r5 : w6.cell? ⟨n, 5, none⟩ = some (.int .i64 (0)) := cell_blk D6.out.res
          have r6 : w6.cell? ⟨n, 6, none⟩ = some (.int .i64 (0)) := cell_blk D6.out.res
          have r7 : w6.cell? ⟨n, 7, none⟩ = some (.int .i64 (0)) := cell_blk D6.out.res
          have r8 : w6.cell? ⟨n, 8, none⟩ = some (.string ⟨#[]⟩) := cell_blk D6.out.res
          have f0 : w6.frozen? ⟨n, 0, none⟩ = false := frozen_blk D6.out.res
          have f1 : w6.frozen? ⟨n, 1, none⟩ = false := frozen_blk D6.out.res
          have f2 : w6.frozen? ⟨n, 2, none⟩ = false := frozen_blk D6.out.res
          have f3 : w6.frozen? ⟨n, 3, none⟩ = false := frozen_blk D6.out.res
          have f4 : w6.frozen? ⟨n, 4, none⟩ = false := frozen_blk D6.out.res
          have f5 : w6.frozen? ⟨n, 5, none⟩ = false := frozen_blk D6.out.res
          have f6 : w6.frozen? ⟨n, 6, none⟩ = false := frozen_blk D6.out.res
          have f7 : w6.frozen? ⟨n, 7, none⟩ = false := frozen_blk D6.out.res
          have f8 : w6.frozen? ⟨n, 8, none⟩ = false := frozen_blk D6.out.res
          obtain ⟨wr, ewr⟩ : ∃ x, set9 w6 n zeroE = x := ⟨_, rfl⟩
          have FR : Hid (EvAt wr n zeroE ∧ Turn Nn w wr) := Lib.hid (by have h := D6.out.fin zeroE; rw [ewr] at h; exact h)
          have fwr : (((((((((w6.setCell ⟨n, 0, none⟩ (.int .i64 (0))).setCell ⟨n, 1, none⟩ (.int .i64 (0))).setCell ⟨n, 2, none⟩ (.string ⟨#[]⟩)).setCell ⟨n, 3, none⟩ (.int .i64 (0))).setCell ⟨n, 4, none⟩ (.string ⟨#[]⟩)).setCell ⟨n, 5, none⟩ (.int .i64 (0))).setCell ⟨n, 6, none⟩ (.int .i64 (0))).setCell ⟨n, 7, none⟩ (.int .i64 (0))).setCell ⟨n, 8, none⟩ (.string ⟨#[]⟩)) = wr := ewr
          clear ewr
          go_wp2_with fail
          exact bodyPost_ret (res25 rfl rfl FR.out.1) rfl ⟨by first | rfl | rw [if_neg (fun h => hc0 h.1)], FR.out.2⟩
theorem guess3_small {E : EventD} {t : Bs} (h : ESmall E) (ht : t.length ≤ 1100000) : ESmall (guess3 E t) := by
  unfold guess3
  split
  · exact ⟨h.actor, h.chan, h.name, ⟨h.ints.slot, h.ints.pc, refWhole_int _⟩, h.side, h.kind, h.tag⟩
  · split
    · exact ⟨h.actor, ht, h.name, ⟨h.ints.slot, h.ints.pc, h.ints.word⟩, h.side, h.kind, h.tag⟩
    · split
      · exact ⟨h.actor, h.chan, ht, ⟨h.ints.slot, h.ints.pc, h.ints.word⟩, h.side, h.kind, h.tag⟩
      · split
        · rename_i c k hE
          obtain ⟨_, hs⟩ := endL_some.1 hE
          have : c.length ≤ t.length ∧ k ≤ 1 := by
            rcases hs with ⟨rfl, rfl⟩ | ⟨rfl, rfl⟩ <;> simp
          refine ⟨h.actor, ?_, h.name, ⟨h.ints.slot, h.ints.pc, h.ints.word⟩, ?_, h.kind, h.tag⟩
          · show c.length ≤ _; omega
          · unfold Int64; show _ ≤ (k : Int) ∧ (k : Int) ≤ _; omega
        · exact ⟨h.actor, by simp, h.name, ⟨h.ints.slot, h.ints.pc, h.ints.word⟩, int64_0, h.kind, h.tag⟩
theorem guess5_small {E : EventD} {m t : Bs} (h : ESmall E) (ht : t.length ≤ 1100000) : ESmall (guess5 E m t) := by
  unfold guess5
  split
  · exact ⟨h.actor, h.chan, h.name, ⟨h.ints.slot, h.ints.pc, refWhole_int _⟩, h.side, h.kind, h.tag⟩
  · split
    · exact ⟨h.actor, h.chan, h.name, ⟨h.ints.slot, h.ints.pc, refWhole_int _⟩, h.side, h.kind, by unfold Int64; simp⟩
    · exact ⟨h.actor, h.chan, ht, ⟨h.ints.slot, h.ints.pc, h.ints.word⟩, h.side, h.kind, by unfold Int64; simp⟩
theorem kindOf_int (x : Bs) : Int64 (kindOf x) := by
  unfold kindOf kindsL
  simp only [kindIx]
  repeat' split
  all_goals (unfold Int64; omega)
theorem slotE_small {v : Int} (h : Int64 v) : ESmall (slotE v) := ⟨by simp [slotE], by simp [slotE], by simp [slotE], ⟨h, int64_0, int64_0⟩, int64_0, int64_0, int64_0⟩
theorem parse_some {s : Bs} {g : EventD} (h : guessW (spC 32 s) = some g) : parseC s = if textD g = some s then (g, 0) else (zeroE, 5) := by
  have hr := ref_parse s
  unfold refParseD at hr
  rw [h] at hr
  simp only at hr
  split
  · rename_i ht
    rw [if_pos ht] at hr
    unfold parseC
    rw [← hr]
  · rename_i ht
    rw [if_neg ht] at hr
    unfold parseC
    rw [← hr]
theorem parse_none {s : Bs} (h : guessW (spC 32 s) = none) : parseC s = (zeroE, 5) := by
  have hr := ref_parse s
  unfold refParseD at hr
  rw [h] at hr
  unfold parseC
  rw [← hr]
theorem rparse_done {s : Bs} {w : World} {L : List Bs} (hsp : spC 32 s = L) (hl : s.length ≤ 1100000) {E1 : EventD} {A P : Bs} (hs1 : ESmall E1)
    (h1 : L.length ≤ 2 ∧ E1 = slotE (refWholeV (L[0]?.getD [])) ∨ 2 < L.length ∧ lastC 64 (L[1]?.getD []) = some (A, P) ∧ E1 = ⟨kindOf (L[2]?.getD []), refWholeV (L[0]?.getD []), A, refWholeV P, [], 0, 0, 0, []⟩)
    (hg : guessW L = some (if 5 < L.length then guess5 (if 3 < L.length then guess3 E1 (L[3]?.getD []) else E1) (L[4]?.getD []) (L[5]?.getD []) else (if 3 < L.length then guess3 E1 (L[3]?.getD []) else E1))) :
    Calls Tryz.prog 25 #[.string (BT s)] w fun e w' => e = .returned (.tuple #[.agg (evC (parseC s).1), .int .i64 (parseC s).2]) ∧ Turn Nn w w' := by
  have hk : ∀ k, (L[k]?.getD []).length ≤ 1100000 := fun k => by
    by_cases hk : k < L.length
    · rw [List.getElem?_eq_getElem hk]
      have hm : L[k] ∈ spC 32 s := by rw [hsp]; exact List.getElem_mem hk
      exact Nat.le_trans (spC_word_le 32 s _ hm) hl
    · rw [List.getElem?_eq_none (by omega)]; decide
  obtain ⟨E2, h2⟩ : ∃ E2, E2 = if 3 < L.length then guess3 E1 (L[3]?.getD []) else E1 := ⟨_, rfl⟩
  rw [← h2] at hg
  obtain ⟨E3, h3⟩ : ∃ E3, E3 = if 5 < L.length then guess5 E2 (L[4]?.getD []) (L[5]?.getD []) else E2 := ⟨_, rfl⟩
  rw [← h3] at hg
  have hs2 : ESmall E2 := by
    rw [h2]; split
    · exact guess3_small hs1 (hk 3)
    · exact hs1
  have hs3 : ESmall E3 := by
    rw [h3]; split
    · exact guess5_small hs2 (hk 5)
    · exact hs2
  rw [← hsp] at hg
  have hp := parse_some hg
  cases ht : textD E3 with
  | some t =>
    have htc := textC_some ht
    have hgv : Gives w 22 #[.agg (evC E3)] (.tuple #[.string (BT t), .int .i64 0]) := fun u _ => by have := rText_any hs3 u; rw [htc] at this; exact this
    have hh := rparse_good (w := w) hsp hl rfl rfl rfl rfl rfl h1 h2 h3 hgv (by
      by_cases hts : t = s
      · exact .inl ⟨rfl, by rw [hts]⟩
      · exact .inr (.inl ⟨rfl, by rw [beqB]; exact decide_eq_false hts⟩))
    by_cases hts : t = s
    · rw [if_pos ⟨rfl, by rw [hts]⟩] at hh
      rw [ht, if_pos (by rw [hts])] at hp
      rw [hp]
      exact hh
    · rw [if_neg (fun h => hts (by have := congrArg ByteArray.toList h.2; rw [BT_toList, BT_toList] at this; exact this))] at hh
      rw [ht, if_neg (fun h => hts (Option.some.inj h))] at hp
      rw [hp]
      exact hh
  | none =>
    have htc := textC_none ht
    have hgv : Gives w 22 #[.agg (evC E3)] (.tuple #[.string (BT []), .int .i64 2]) := fun u _ => by have := rText_any hs3 u; rw [htc] at this; exact this
    have hh := rparse_good (w := w) hsp hl rfl rfl rfl rfl rfl h1 h2 h3 hgv (.inr (.inr (by decide)))
    rw [if_neg (fun h => absurd h.1 (by decide))] at hh
    rw [ht, if_neg (fun h => by cases h)] at hp
    rw [hp]
    exact hh
theorem rparse_any {s : Bs} (hl : s.length ≤ 1100000) (w : World) : Calls Tryz.prog 25 #[.string (BT s)] w fun e w' => e = .returned (.tuple #[.agg (evC (parseC s).1), .int .i64 (parseC s).2]) ∧ Turn Nn w w' := by
  obtain ⟨L, hsp⟩ : ∃ L, spC 32 s = L := ⟨_, rfl⟩
  by_cases h2 : L.length ≤ 2
  · refine rparse_done (A := []) (P := []) hsp hl (slotE_small (refWhole_int _)) (.inl ⟨h2, rfl⟩) ?_
    rw [if_neg (by omega), if_neg (by omega)]
    unfold guessW
    rw [if_pos h2]
  · cases hlc : lastC 64 (L[1]?.getD []) with
    | none =>
      have hg : guessW (spC 32 s) = none := by
        rw [hsp]
        unfold guessW
        rw [if_neg h2, hlc]
      rw [parse_none hg]
      exact rparse_bad hsp hl (by omega) hlc
    | some x =>
      obtain ⟨a, p⟩ := x
      have hla : a.length ≤ 1100000 := by
        obtain ⟨_, he⟩ := lastI_some hlc
        have hk : (L[1]?.getD []).length ≤ 1100000 := by
          have hm : L[1]'(by omega) ∈ spC 32 s := by rw [hsp]; exact List.getElem_mem _
          rw [List.getElem?_eq_getElem (by omega)]
          exact Nat.le_trans (spC_word_le 32 s _ hm) hl
        have := congrArg List.length he
        rw [List.length_append, List.length_cons] at this
        omega
      refine rparse_done (A := a) (P := p) hsp hl ⟨hla, by simp, by simp, ⟨refWhole_int _, refWhole_int _, int64_0⟩, int64_0, kindOf_int _, int64_0⟩ (.inr ⟨by omega, hlc, rfl⟩) ?_
      unfold guessW
      rw [if_neg h2, hlc]
end
section
open Go.RowKit Go.Shelf Go.Lib

theorem addr_add (b o k : Nat) : (⟨b, o, none⟩ : Addr).add k = ⟨b, o + k, none⟩ := by unfold Addr.add; split <;> simp_all
/-- A block that begins with bytes. -/
def BytesAt (W : World) (r : Nat) (l : Bs) : Prop := ∃ cs d, W.heap[r]? = some (.cells cs 5 d) ∧ l.length ≤ d.1 ∧ l.length ≤ cs.size ∧ ∀ j (h : j < l.length), cs[j]? = some (.int .u8 (l[j].toNat : Int))
theorem BytesAt.turn {W W' : World} {r : Nat} {l : Bs} (h : BytesAt W r l) (t : Turn Nn W W') : BytesAt W' r l := by
  obtain ⟨cs, d, h1, h2⟩ := h
  exact ⟨cs, d, (t.block r (heap_lt h1) (fun h => h)).trans h1, h2⟩
theorem BytesAt.cell {W : World} {r : Nat} {l : Bs} (h : BytesAt W r l) {j : Nat} (hj : j < l.length) : W.cell? ⟨r, j, none⟩ = some (.int .u8 (l[j].toNat : Int)) := by
  obtain ⟨cs, d, h1, _, _, h3⟩ := h
  rw [cell_blk h1]
  exact h3 j hj
theorem BytesAt.free {W : World} {r : Nat} {l : Bs} (h : BytesAt W r l) {j : Nat} (hj : j < l.length) : W.frozen? ⟨r, j, none⟩ = false := by
  obtain ⟨cs, d, h1, h2, _⟩ := h
  unfold World.frozen?
  rw [h1]
  obtain ⟨lo, hi⟩ := d
  simp only [Bool.and_eq_false_iff, decide_eq_false_iff_not]
  left
  have : l.length ≤ lo := h2
  omega
theorem BytesAt.set {W : World} {r : Nat} {l : Bs} (h : BytesAt W r l) {j : Nat} (hj : j < l.length) (b : UInt8) : BytesAt (W.setCell ⟨r, j, none⟩ (.int .u8 (b.toNat : Int))) r (l.set j b) := by
  obtain ⟨cs, d, h1, h2, h4, h3⟩ := h
  refine ⟨cs.setIfInBounds j (.int .u8 (b.toNat : Int)), d, ?_, by simpa using h2, by simpa using h4, fun i hi => ?_⟩
  · simp [World.setCell, Array.getElem?_modify, h1]
  · have hi' : i < l.length := by simpa using hi
    by_cases e : j = i
    · subst e
      rw [Array.getElem?_setIfInBounds_self_of_lt (by omega)]
      simp
    · rw [Array.getElem?_setIfInBounds_ne e, h3 i hi']
      simp [List.getElem_set, e]
theorem BytesAt.str {W : World} {r : Nat} {l : Bs} (h : BytesAt W r l) (cap : Nat) : (convert 22 9 (.slice (some ⟨r, 0, none⟩) l.length cap)).run Tryz.prog W = .ok (.string (BT l)) W :=
  run_convert_bytes_back (P := Tryz.prog) W 22 9 5 ⟨r, 0, none⟩ cap l Tryz.underlying22 Tryz.underlying5 Tryz.underlying9 (fun j hj => by
    rw [addr_add, Nat.zero_add]
    exact h.cell hj)
/-- Bytes of a text: a new block. -/
theorem bytes_new (l : Bs) (W : World) : ∃ cap W', (convert 9 22 (.string (BT l))).run Tryz.prog W = .ok (.slice (some ⟨W.heap.size, 0, none⟩) l.length cap) W' ∧ BytesAt W' W.heap.size l ∧ Turn Nn W W' := by
  have hr := Lib.run_convert_string_bytes (P := Tryz.prog) W 9 22 5 (BT l) Tryz.underlying9 Tryz.underlying22 Tryz.underlying5
  have hsz : (BT l).size = l.length := BT_size l
  rw [hsz] at hr
  have hcs : l.length ≤ (Lib.bytesCells W 5 (BT l)).size := by
    unfold Lib.bytesCells
    simp [BT]
  refine ⟨_, _, hr, ⟨Lib.bytesCells W 5 (BT l), _, Lib.bytesWorld_at_new W 5 (BT l), hcs, hcs, fun j hj => ?_⟩, ⟨?_, ?_, ?_, ?_, fun k hk _ => Lib.bytesWorld_at_old W 5 (BT l) k hk⟩⟩
  · unfold Lib.bytesCells
    simp [BT, Array.getElem?_append, hj]
  · simp [Lib.bytesWorld, World.freeze, World.alloc, World.drew, -World.alloc_eq, -World.drew_eq]
  · simp [Lib.bytesWorld, World.freeze, World.alloc, World.drew, -World.alloc_eq, -World.drew_eq]
  · simp [Lib.bytesWorld, World.freeze, World.alloc, World.drew, -World.alloc_eq, -World.drew_eq]
  · rw [Lib.bytesWorld_size]; omega
structure RDoor (w W : World) (n q : Nat) (acts : Array Value) (x y : Int) (A B C : ByteArray) : Prop where
  act : W.heap[n]? = some (.cells acts 36)
  oth : W.heap[n + 1]? = some (.cells #[.int .u8 x, .int .u8 y] 42)
  txt : W.heap[q]? = some (.cells #[.string A, .string B, .string C] 9)
  low : Turn Nn w W
  gn : w.heap.size ≤ n
  gq : w.heap.size ≤ q
  nq : n ≠ q
  oq : n + 1 ≠ q
theorem RDoor.turn {w W W' : World} {n q : Nat} {acts : Array Value} {x y : Int} {A B C : ByteArray} (D : RDoor w W n q acts x y A B C) (t : Turn Nn W W') : RDoor w W' n q acts x y A B C :=
  ⟨(t.block _ (heap_lt D.act) (fun h => h)).trans D.act, (t.block _ (heap_lt D.oth) (fun h => h)).trans D.oth, (t.block _ (heap_lt D.txt) (fun h => h)).trans D.txt, D.low.trans t, D.gn, D.gq, D.nq, D.oq⟩
theorem RDoor.set1 {w W : World} {n q : Nat} {acts : Array Value} {x y : Int} {A B C : ByteArray} (D : RDoor w W n q acts x y A B C) (X : ByteArray) : RDoor w (W.setCell ⟨q, 1, none⟩ (.string X)) n q acts x y A X C :=
  ⟨blk_set D.act D.nq, blk_set D.oth D.oq, heap_setCell_at D.txt 1 _, D.low.setCell (p := ⟨q, 1, none⟩) (.inr D.gq) _, D.gn, D.gq, D.nq, D.oq⟩
theorem RDoor.set2 {w W : World} {n q : Nat} {acts : Array Value} {x y : Int} {A B C : ByteArray} (D : RDoor w W n q acts x y A B C) (X : ByteArray) : RDoor w (W.setCell ⟨q, 2, none⟩ (.string X)) n q acts x y A B X :=
  ⟨blk_set D.act D.nq, blk_set D.oth D.oq, heap_setCell_at D.txt 2 _, D.low.setCell (p := ⟨q, 2, none⟩) (.inr D.gq) _, D.gn, D.gq, D.nq, D.oq⟩
/-- A store into a new block of the call's own. -/
theorem RDoor.off {w W : World} {n q : Nat} {acts : Array Value} {x y : Int} {A B C : ByteArray} (D : RDoor w W n q acts x y A B C) {r : Nat} (h1 : n ≠ r) (h2 : n + 1 ≠ r) (h3 : q ≠ r) (hr : w.heap.size ≤ r) (j : Nat) (v : Value) : RDoor w (W.setCell ⟨r, j, none⟩ v) n q acts x y A B C :=
  ⟨blk_set D.act h1, blk_set D.oth h2, blk_set D.txt h3, D.low.setCell (p := ⟨r, j, none⟩) (.inr hr) _, D.gn, D.gq, D.nq, D.oq⟩
theorem set_le {l : Bs} {k : Nat} {b : UInt8} {m : Nat} (h : l.length ≤ m) : (l.set k b).length ≤ m := by simpa using h
set_option maxRecDepth 100000 in
set_option maxHeartbeats 40000000 in
theorem reads_walk {w : World} {va vc vn : Value} {kd sd tg wd od : Int} {a b : UInt8} {F : EventD} {SA : ByteArray} {Z T : Bs} {c : Int}
    (hW : Gives w 20 #[] (.bool true)) (hEv : Gives w 23 #[.agg #[.int .u8 kd, va, vc, vn, .int .u8 sd, .int .u8 tg, .int .i64 wd, .int .u8 od]] (.agg (evC F)))
    (hR : Gives w 22 #[.agg (evC F)] (.tuple #[.string (BT T), .int .i64 c])) (hc : c = 0 ∧ 0 < T.length ∨ c ≠ 0) (hTl : T.length ≤ 1100000)
    (hP : ∀ y : Bs, y.length ≤ 1100000 → Gives w 24 #[.string (BT y)] (.tuple #[.agg (evC (parseC y).1), .int .i64 (parseC y).2]) ∧ Gives w 25 #[.string (BT y)] (.tuple #[.agg (evC (parseC y).1), .int .i64 (parseC y).2]))
    (ea : SA.extract 0 (min SA.size 1000) = BT Z) (hZ : Z.length ≤ 1000) (sa : SA.size ≤ 9223372036854775807) :
    Calls Tryz.prog 5 #[.string SA, .agg #[.int .u8 kd, va, vc, vn, .int .u8 sd, .int .u8 tg, .int .i64 wd, .int .u8 od], .agg #[.int .u8 (a.toNat : Int), .int .u8 (b.toNat : Int)]] w fun e w' => e = .returned (.bool true) ∧ Turn Nn w w' := by
  obtain ⟨w1, e1⟩ : ∃ x, w.alloc (.cells #[.int .u8 kd, va, vc, vn, .int .u8 sd, .int .u8 tg, .int .i64 wd, .int .u8 od] 36) = x := ⟨_, rfl⟩
  obtain ⟨b1, t1⟩ := alloc1 e1
  obtain ⟨x, hx⟩ : ∃ x, (a.toNat : Int) = x := ⟨_, rfl⟩
  obtain ⟨y, hy⟩ : ∃ y, (b.toNat : Int) = y := ⟨_, rfl⟩
  have hx0 : 0 ≤ x ∧ x < 256 := by have := a.toNat_lt; omega
  rw [hx, hy]
  obtain ⟨w2, e2⟩ : ∃ z, w1.alloc (.cells #[.int .u8 x, .int .u8 y] 42) = z := ⟨_, rfl⟩
  obtain ⟨b2, t2⟩ := alloc1 e2
  obtain ⟨n, hn⟩ : ∃ n, w.heap.size = n := ⟨_, rfl⟩
  have hn1 : w1.heap.size = n + 1 := by rw [← e1, World.size_alloc, hn]
  have hn2 : w2.heap.size = n + 2 := by rw [← e2, World.size_alloc, hn1]
  rw [hn] at b1
  rw [hn1] at b2
  obtain ⟨Z0, hZ0⟩ : ∃ X, BT Z = X := ⟨_, rfl⟩
  rw [hZ0] at ea
  obtain ⟨w3, e3⟩ : ∃ z, w2.alloc (.cells #[.string Z0, .string SA, .string ⟨#[]⟩] 9) = z := ⟨_, rfl⟩
  obtain ⟨b3, t3⟩ := alloc1 e3
  rw [hn2] at b3
  have D3 : Hid (RDoor w w3 n (n + 2) #[.int .u8 kd, va, vc, vn, .int .u8 sd, .int .u8 tg, .int .i64 wd, .int .u8 od] x y Z0 SA ⟨#[]⟩) := Lib.hid ⟨((t2.trans t3).block _ (heap_lt b1) (fun h => h)).trans b1, (t3.block _ (heap_lt b2) (fun h => h)).trans b2, b3, (t1.trans t2).trans t3, by omega, by omega, by omega, by omega⟩
  obtain ⟨m, hm⟩ : ∃ m, min SA.size 1000 = m := ⟨_, rfl⟩
  have hml : m ≤ SA.size := by omega
  have hmin : ∀ W, (Builtin.min_ #[3, 3] 3 #[.int .i64 SA.size, .int .i64 1000]).run Tryz.prog W = .ok (.int .i64 (m : Int)) W := fun W => by
    rw [run_min_int2]
    congr 2
    split <;> omega
  rw [hm] at ea
  have HW := Lib.hid hW
  have HEV := Lib.hid hEv
  have HR := Lib.hid hR
  have HP := Lib.hid hP
  have HC := Lib.hid hc
  have HTL := Lib.hid hTl
  have HX := Lib.hid hx
  have HY := Lib.hid hy
  have HX0 := Lib.hid hx0
  have HZ : Hid (BT Z = Z0 ∧ Z.length ≤ 1100000) := Lib.hid ⟨hZ0, by omega⟩
  unfold evC at HR HEV
  obtain ⟨TB, hTB⟩ : ∃ X, BT T = X := ⟨_, rfl⟩
  rw [hTB] at HR
  have HTB := Lib.hid hTB
  have HGN : Hid (w.heap.size = n) := Lib.hid hn
  clear b1 b2 b3 t1 t2 t3 hW hEv hR hP hc hTl hx hy hx0 hZ0 hZ hm hTB
  go_enter Tryz.func5, Tryz.ntmps5
  have a0 : w3.cell? ⟨n, 0, none⟩ = some (.int .u8 kd) := cell_blk D3.out.act
  have a1 : w3.cell? ⟨n, 1, none⟩ = some (va) := cell_blk D3.out.act
  have a2 : w3.cell? ⟨n, 2, none⟩ = some (vc) := cell_blk D3.out.act
  have a3 : w3.cell? ⟨n, 3, none⟩ = some (vn) := cell_blk D3.out.act
  have a4 : w3.cell? ⟨n, 4, none⟩ = some (.int .u8 sd) := cell_blk D3.out.act
  have a5 : w3.cell? ⟨n, 5, none⟩ = some (.int .u8 tg) := cell_blk D3.out.act
  have a6 : w3.cell? ⟨n, 6, none⟩ = some (.int .i64 wd) := cell_blk D3.out.act
  have a7 : w3.cell? ⟨n, 7, none⟩ = some (.int .u8 od) := cell_blk D3.out.act
  go_wp2_with fail
  refine (HEV.out _ D3.out.low).mono ?_
  rintro e w4 ⟨rfl, t⟩
  have D4 := Lib.hid (D3.out.turn t)
  clear t a0 a1 a2 a3 a4 a5 a6 a7
  go_wp2_with fail
  refine (HR.out _ D4.out.low).mono ?_
  rintro e w5 ⟨rfl, t⟩
  have D5 := Lib.hid (D4.out.turn t)
  clear t ea hmin hml e1 e2 e3 hn hn1 hn2 sa
  go_upto_if 30 with (fail)
  go_cut [] from 16 to 51 (fun wx => ∃ Y1 Y2 : Bs, Y1.length ≤ 1100000 ∧ Y2.length ≤ 1100000 ∧ RDoor w wx n (n + 2) #[.int .u8 kd, va, vc, vn, .int .u8 sd, .int .u8 tg, .int .i64 wd, .int .u8 od] x y Z0 (BT Y1) (BT Y2))
  case first =>
    rcases HC.out with ⟨hc0, hpos⟩ | hc0
    · subst hc0
      have y1 : w5.cell? ⟨n + 2, 1, none⟩ = some (.string SA) := cell_blk D5.out.txt
      have z1 : w5.frozen? ⟨n + 2, 1, none⟩ = false := frozen_blk D5.out.txt
      obtain ⟨w6, e6⟩ : ∃ z, w5.setCell ⟨n + 2, 1, none⟩ (.string TB) = z := ⟨_, rfl⟩
      have D6 : Hid (RDoor w w6 n (n + 2) #[.int .u8 kd, va, vc, vn, .int .u8 sd, .int .u8 tg, .int .i64 wd, .int .u8 od] x y Z0 TB ⟨#[]⟩) := Lib.hid (by rw [← e6]; exact D5.out.set1 TB)
      obtain ⟨r, hr⟩ : ∃ r, w6.heap.size = r := ⟨_, rfl⟩
      obtain ⟨cap, w7, hcv, hba, t7⟩ := bytes_new T w6
      rw [HTB.out, hr] at hcv
      rw [hr] at hba
      have D7 := Lib.hid (D6.out.turn t7)
      have BA := Lib.hid hba
      have hn' : n + 1 < r := by rw [← hr]; exact heap_lt D6.out.oth
      have hq' : n + 2 < r := by rw [← hr]; exact heap_lt D6.out.txt
      have OFF : Hid (n ≠ r ∧ n + 1 ≠ r ∧ n + 2 ≠ r ∧ w.heap.size ≤ r) := Lib.hid ⟨by omega, by omega, by omega, by have := D6.out.gq; omega⟩
      obtain ⟨N, hN⟩ : ∃ N, T.length = N := ⟨_, rfl⟩
      have HN := Lib.hid hN
      rw [hN] at hcv hpos
      have hTl := HTL.out
      rw [hN] at hTl
      obtain ⟨k, hk⟩ : ∃ k : Nat, a.toNat % N = k := ⟨_, rfl⟩
      have hkN : k < N := by rw [← hk]; exact Nat.mod_lt _ hpos
      have htm : x.tmod (N : Int) = (k : Int) := by rw [← HX.out, Int.tmod_eq_emod_of_nonneg (by omega), ← hk]; simp
      have hem : x % (N : Int) = (k : Int) := by rw [← HX.out, ← hk]; simp
      have hN0 : (N : Int) ≠ 0 := by omega
      have hNz : ¬ N = 0 := by omega
      have hkI : (k : Int) < (N : Int) := by omega
      have hxw : IntKind.i64.wrap x = x := by have := HX0.out; rw [IntKind.wrap_i64]; omega
      have hkw : IntKind.i64.wrap (k : Int) = (k : Int) := by rw [IntKind.wrap_i64]; omega
      clear t7 hba hn' hq' hN hk
      go_upto_region 6 with (fail)
      clear y1 z1 e6 hr hcv
      refine held_begin (fun u => RDoor w u n (n + 2) #[.int .u8 kd, va, vc, vn, .int .u8 sd, .int .u8 tg, .int .i64 wd, .int .u8 od] x y Z0 TB ⟨#[]⟩) (by kernel_rfl) ?_
      have DD : Hid (RDoor w w7.drew n (n + 2) #[.int .u8 kd, va, vc, vn, .int .u8 sd, .int .u8 tg, .int .i64 wd, .int .u8 od] x y Z0 TB ⟨#[]⟩ ∧ BytesAt w7.drew r T) := Lib.hid ⟨D7.out.turn (Turn.refl Nn w7).drew, BA.out.turn (Turn.refl Nn w7).drew⟩
      clear D7 BA D6 D5 D4 D3
      generalize World.drew w7 = ws at DD ⊢
      refine held_take 0 ?_ rfl (by kernel_rfl) (by kernel_rfl) (by kernel_rfl) (fun _ _ _ h => h) (Or.inl ⟨by kernel_rfl, ?_⟩) DD.out.1 ?_
      rotate_left 1
      · intro u hu; have x0 : u.cell? ⟨n + 1, 0, none⟩ = some (.int .u8 x) := cell_blk hu.oth; have x1 : u.cell? ⟨n + 1, 1, none⟩ = some (.int .u8 y) := cell_blk hu.oth; clear hu; go_simp; first | done | with_reducible rfl
      try simp only [Act.put, nA, nB, nC, nD, nE, nF]
      refine held_take 1 ?_ rfl (by kernel_rfl) (by kernel_rfl) (by kernel_rfl) (fun _ _ _ h => h) (Or.inl ⟨by kernel_rfl, ?_⟩) DD.out.1 ?_
      rotate_left 1
      · intro u hu; have x0 : u.cell? ⟨n + 1, 0, none⟩ = some (.int .u8 x) := cell_blk hu.oth; have x1 : u.cell? ⟨n + 1, 1, none⟩ = some (.int .u8 y) := cell_blk hu.oth; clear hu; go_simp; first | done | with_reducible rfl
      try simp only [Act.put, nA, nB, nC, nD, nE, nF]
      refine held_take 2 ?_ rfl (by kernel_rfl) (by kernel_rfl) (by kernel_rfl) (fun _ _ _ h => h) (Or.inl ⟨by kernel_rfl, ?_⟩) DD.out.1 ?_
      rotate_left 1
      · intro u hu; have x0 : u.cell? ⟨n + 1, 0, none⟩ = some (.int .u8 x) := cell_blk hu.oth; have x1 : u.cell? ⟨n + 1, 1, none⟩ = some (.int .u8 y) := cell_blk hu.oth; clear hu; go_simp; first | done | with_reducible rfl
      try simp only [Act.put, nA, nB, nC, nD, nE, nF]
      refine held_take 3 ?_ rfl (by kernel_rfl) (by kernel_rfl) (by kernel_rfl) (fun _ _ _ h => h) (Or.inl ⟨by kernel_rfl, ?_⟩) DD.out.1 ?_
      rotate_left 1
      · intro u hu; have x0 : u.cell? ⟨n + 1, 0, none⟩ = some (.int .u8 x) := cell_blk hu.oth; have x1 : u.cell? ⟨n + 1, 1, none⟩ = some (.int .u8 y) := cell_blk hu.oth; clear hu; go_simp; first | done | with_reducible rfl
      try simp only [Act.put, nA, nB, nC, nD, nE, nF]
      refine held_take 4 ?_ rfl (by kernel_rfl) (by kernel_rfl) (by kernel_rfl) (fun _ _ _ h => h) (Or.inl ⟨by kernel_rfl, ?_⟩) DD.out.1 ?_
      rotate_left 1
      · intro u hu; have x0 : u.cell? ⟨n + 1, 0, none⟩ = some (.int .u8 x) := cell_blk hu.oth; have x1 : u.cell? ⟨n + 1, 1, none⟩ = some (.int .u8 y) := cell_blk hu.oth; clear hu; go_simp; first | done | with_reducible rfl
      try simp only [Act.put, nA, nB, nC, nD, nE, nF]
      refine held_take 5 ?_ rfl (by kernel_rfl) (by kernel_rfl) (by kernel_rfl) (fun _ _ _ h => h) (Or.inl ⟨by kernel_rfl, ?_⟩) DD.out.1 ?_
      rotate_left 1
      · intro u hu; have x0 : u.cell? ⟨n + 1, 0, none⟩ = some (.int .u8 x) := cell_blk hu.oth; have x1 : u.cell? ⟨n + 1, 1, none⟩ = some (.int .u8 y) := cell_blk hu.oth; clear hu; go_simp; first | done | with_reducible rfl
      try simp only [Act.put, nA, nB, nC, nD, nE, nF]
      refine held_take 6 ?_ rfl (by kernel_rfl) (by kernel_rfl) (by kernel_rfl) (fun _ _ _ h => h) (Or.inl ⟨by kernel_rfl, ?_⟩) DD.out.1 ?_
      rotate_left 1
      · intro u hu; have x0 : u.cell? ⟨n + 1, 0, none⟩ = some (.int .u8 x) := cell_blk hu.oth; have x1 : u.cell? ⟨n + 1, 1, none⟩ = some (.int .u8 y) := cell_blk hu.oth; clear hu; go_simp; first | done | with_reducible rfl
      try simp only [Act.put, nA, nB, nC, nD, nE, nF]
      refine held_take 7 ?_ rfl (by kernel_rfl) (by kernel_rfl) (by kernel_rfl) (fun _ _ _ h => h) (Or.inl ⟨by kernel_rfl, ?_⟩) DD.out.1 ?_
      rotate_left 1
      · intro u hu; have x0 : u.cell? ⟨n + 1, 0, none⟩ = some (.int .u8 x) := cell_blk hu.oth; have x1 : u.cell? ⟨n + 1, 1, none⟩ = some (.int .u8 y) := cell_blk hu.oth; clear hu; go_simp; first | done | with_reducible rfl
      try simp only [Act.put, nA, nB, nC, nD, nE, nF]
      refine held_take 8 ?_ rfl (by kernel_rfl) (by kernel_rfl) (by kernel_rfl) (fun _ _ _ h => h) (Or.inl ⟨by kernel_rfl, ?_⟩) DD.out.1 ?_
      rotate_left 1
      · intro u hu; have x0 : u.cell? ⟨n + 1, 0, none⟩ = some (.int .u8 x) := cell_blk hu.oth; have x1 : u.cell? ⟨n + 1, 1, none⟩ = some (.int .u8 y) := cell_blk hu.oth; clear hu; go_simp; first | done | with_reducible rfl
      try simp only [Act.put, nA, nB, nC, nD, nE, nF]
      refine held_take 9 ?_ rfl (by kernel_rfl) (by kernel_rfl) (by kernel_rfl) (fun _ _ _ h => h) (Or.inl ⟨by kernel_rfl, ?_⟩) DD.out.1 ?_
      rotate_left 1
      · intro u hu; have x0 : u.cell? ⟨n + 1, 0, none⟩ = some (.int .u8 x) := cell_blk hu.oth; have x1 : u.cell? ⟨n + 1, 1, none⟩ = some (.int .u8 y) := cell_blk hu.oth; clear hu; go_simp; first | done | with_reducible rfl
      try simp only [Act.put, nA, nB, nC, nD, nE, nF]
      have y1 : ws.cell? ⟨r, k, none⟩ = some (.int .u8 (T[k]'(by rw [HN.out]; exact hkN)).toNat) := DD.out.2.cell _
      have z1 : ws.frozen? ⟨r, k, none⟩ = false := DD.out.2.free (by rw [HN.out]; exact hkN)
      obtain ⟨w8, e8⟩ : ∃ z, ws.setCell ⟨r, k, none⟩ (.int .u8 y) = z := ⟨_, rfl⟩
      have D8 : Hid (RDoor w w8 n (n + 2) #[.int .u8 kd, va, vc, vn, .int .u8 sd, .int .u8 tg, .int .i64 wd, .int .u8 od] x y Z0 TB ⟨#[]⟩ ∧ BytesAt w8 r (T.set k b)) := Lib.hid (by
        have h2 := DD.out.2.set (j := k) (by rw [HN.out]; exact hkN) b
        rw [HY.out, e8] at h2
        refine ⟨?_, h2⟩
        rw [← e8]
        exact DD.out.1.off OFF.out.1 OFF.out.2.1 OFF.out.2.2.1 OFF.out.2.2.2 _ _)
      refine held_one 10 (by kernel_rfl) rfl (by kernel_rfl) (fun K hK => ?_)
      go_simp
      refine hK _ _ D8.out.1 ?_
      clear hK K y1 z1 e8
      try simp only [Act.put, nA, nB, nC, nD, nE, nF]
      refine wpAnyH_done (by kernel_rfl) ?_ _
      obtain ⟨TX, hTX⟩ : ∃ X, BT (T.set k b) = X := ⟨_, rfl⟩
      have HTX := Lib.hid hTX
      have hcs := D8.out.2.str cap
      rw [List.length_set, HN.out, hTX] at hcs
      have y2 : w8.cell? ⟨n + 2, 2, none⟩ = some (.string ⟨#[]⟩) := cell_blk D8.out.1.txt
      have z2 : w8.frozen? ⟨n + 2, 2, none⟩ = false := frozen_blk D8.out.1.txt
      obtain ⟨w9, e9⟩ : ∃ z, w8.setCell ⟨n + 2, 2, none⟩ (.string TX) = z := ⟨_, rfl⟩
      have D9 : Hid (RDoor w w9 n (n + 2) #[.int .u8 kd, va, vc, vn, .int .u8 sd, .int .u8 tg, .int .i64 wd, .int .u8 od] x y Z0 TB TX) := Lib.hid (by rw [← e9]; exact D8.out.1.set2 TX)
      clear hTX
      go_wp2_with fail
      go_meet
      case rel => exact ⟨T, T.set k b, HTL.out, set_le HTL.out, by rw [HTB.out, HTX.out]; exact D9.out⟩
    · have hb : (c == 0) = false := by simp [hc0]
      have y1 : w5.cell? ⟨n + 2, 1, none⟩ = some (.string SA) := cell_blk D5.out.txt
      have z1 : w5.frozen? ⟨n + 2, 1, none⟩ = false := frozen_blk D5.out.txt
      obtain ⟨w6, e6⟩ : ∃ z, w5.setCell ⟨n + 2, 1, none⟩ (.string ⟨#[48, 32, 105, 100, 108, 101]⟩) = z := ⟨_, rfl⟩
      have D6 : Hid (RDoor w w6 n (n + 2) #[.int .u8 kd, va, vc, vn, .int .u8 sd, .int .u8 tg, .int .i64 wd, .int .u8 od] x y Z0 ⟨#[48, 32, 105, 100, 108, 101]⟩ ⟨#[]⟩) := Lib.hid (by rw [← e6]; exact D5.out.set1 _)
      go_wp2_with fail
      go_meet
      case rel => exact ⟨[48, 32, 105, 100, 108, 101], [], by decide, by decide, D6.out⟩
  case rest =>
    obtain ⟨Y1, Y2, hy1, hy2, d⟩ := hcut
    have HP0 := Lib.hid (HP.out Z HZ.out.2)
    have HP1 := Lib.hid (HP.out Y1 hy1)
    have HP2 := Lib.hid (HP.out Y2 hy2)
    rw [HZ.out.1] at HP0
    clear HC HTL HX HY HX0 HZ HTB HGN HP HEV HR hy1 hy2 D5 D4 D3
    obtain ⟨Z1, hZ1⟩ : ∃ X, BT Y1 = X := ⟨_, rfl⟩
    obtain ⟨Z2, hZ2⟩ : ∃ X, BT Y2 = X := ⟨_, rfl⟩
    rw [hZ1] at HP1 d
    rw [hZ2] at HP2 d
    generalize (parseC Z).1 = G0 at HP0
    generalize (parseC Z).2 = c0 at HP0
    generalize (parseC Y1).1 = G1 at HP1
    generalize (parseC Y1).2 = c1 at HP1
    generalize (parseC Y2).1 = G2 at HP2
    generalize (parseC Y2).2 = c2 at HP2
    have D0 := Lib.hid d
    clear d hZ1 hZ2
    unfold evC at HP0 HP1 HP2
    go_wp2_with fail
    refine wp_loop_rounds 4 ?_
    rw [rounds_succ]
    have x0 : wc.cell? ⟨n + 2, 0, none⟩ = some (.string Z0) := cell_blk D0.out.txt
    go_wp2_with fail
    refine (HP0.out.1 _ D0.out.low).mono ?_
    rintro e u0 ⟨rfl, t⟩
    have Da0 := Lib.hid (D0.out.turn t)
    clear t x0
    obtain ⟨p0a, bb0a, cc0a, hp0a, eb0a, Bb0a, ec0a, Bc0a, tb0a, tc0a⟩ := evbox u0 G0
    have BC0a := Lib.hid Bc0a
    have TC0a := Lib.hid tc0a
    have fc0a : (((((((((bb0a.setCell ⟨p0a, 0, none⟩ (.int .i64 (G0.kind))).setCell ⟨p0a, 1, none⟩ (.int .i64 (G0.slot))).setCell ⟨p0a, 2, none⟩ (.string (BT G0.actor))).setCell ⟨p0a, 3, none⟩ (.int .i64 (G0.pc))).setCell ⟨p0a, 4, none⟩ (.string (BT G0.chan))).setCell ⟨p0a, 5, none⟩ (.int .i64 (G0.side))).setCell ⟨p0a, 6, none⟩ (.int .i64 (G0.tag))).setCell ⟨p0a, 7, none⟩ (.int .i64 (G0.word))).setCell ⟨p0a, 8, none⟩ (.string (BT G0.name))) = cc0a := ec0a
    obtain ⟨y0, y1, y2, y3, y4, y5, y6, y7, y8⟩ : bb0a.cell? ⟨p0a, 0, none⟩ = some (.int .i64 0) ∧ bb0a.cell? ⟨p0a, 1, none⟩ = some (.int .i64 0) ∧ bb0a.cell? ⟨p0a, 2, none⟩ = some (.string ⟨#[]⟩) ∧ bb0a.cell? ⟨p0a, 3, none⟩ = some (.int .i64 0) ∧ bb0a.cell? ⟨p0a, 4, none⟩ = some (.string ⟨#[]⟩) ∧ bb0a.cell? ⟨p0a, 5, none⟩ = some (.int .i64 0) ∧ bb0a.cell? ⟨p0a, 6, none⟩ = some (.int .i64 0) ∧ bb0a.cell? ⟨p0a, 7, none⟩ = some (.int .i64 0) ∧ bb0a.cell? ⟨p0a, 8, none⟩ = some (.string ⟨#[]⟩) := evCells Bb0a
    obtain ⟨z0, z1, z2, z3, z4, z5, z6, z7, z8⟩ := evFree Bb0a
    clear Bb0a ec0a Bc0a tb0a tc0a
    have Db0 := Lib.hid (Da0.out.turn TC0a.out)
    have x0 : cc0a.cell? ⟨n + 2, 0, none⟩ = some (.string Z0) := cell_blk Db0.out.txt
    go_wp2_with fail
    refine (HP0.out.2 _ Db0.out.low).mono ?_
    rintro e v0 ⟨rfl, t⟩
    have Dd0 := Lib.hid (Db0.out.turn t)
    have BD0 := Lib.hid (BC0a.out.turn t)
    clear t x0 fc0a eb0a hp0a y0 y1 y2 y3 y4 y5 y6 y7 y8 z0 z1 z2 z3 z4 z5 z6 z7 z8
    obtain ⟨p0b, bb0b, cc0b, hp0b, eb0b, Bb0b, ec0b, Bc0b, tb0b, tc0b⟩ := evbox v0 G0
    have BC0b := Lib.hid Bc0b
    have TC0b := Lib.hid tc0b
    have fc0b : (((((((((bb0b.setCell ⟨p0b, 0, none⟩ (.int .i64 (G0.kind))).setCell ⟨p0b, 1, none⟩ (.int .i64 (G0.slot))).setCell ⟨p0b, 2, none⟩ (.string (BT G0.actor))).setCell ⟨p0b, 3, none⟩ (.int .i64 (G0.pc))).setCell ⟨p0b, 4, none⟩ (.string (BT G0.chan))).setCell ⟨p0b, 5, none⟩ (.int .i64 (G0.side))).setCell ⟨p0b, 6, none⟩ (.int .i64 (G0.tag))).setCell ⟨p0b, 7, none⟩ (.int .i64 (G0.word))).setCell ⟨p0b, 8, none⟩ (.string (BT G0.name))) = cc0b := ec0b
    obtain ⟨y0, y1, y2, y3, y4, y5, y6, y7, y8⟩ : bb0b.cell? ⟨p0b, 0, none⟩ = some (.int .i64 0) ∧ bb0b.cell? ⟨p0b, 1, none⟩ = some (.int .i64 0) ∧ bb0b.cell? ⟨p0b, 2, none⟩ = some (.string ⟨#[]⟩) ∧ bb0b.cell? ⟨p0b, 3, none⟩ = some (.int .i64 0) ∧ bb0b.cell? ⟨p0b, 4, none⟩ = some (.string ⟨#[]⟩) ∧ bb0b.cell? ⟨p0b, 5, none⟩ = some (.int .i64 0) ∧ bb0b.cell? ⟨p0b, 6, none⟩ = some (.int .i64 0) ∧ bb0b.cell? ⟨p0b, 7, none⟩ = some (.int .i64 0) ∧ bb0b.cell? ⟨p0b, 8, none⟩ = some (.string ⟨#[]⟩) := evCells Bb0b
    obtain ⟨z0, z1, z2, z3, z4, z5, z6, z7, z8⟩ := evFree Bb0b
    clear Bb0b ec0b Bc0b tb0b tc0b
    have D1 := Lib.hid (Dd0.out.turn TC0b.out)
    have BE0 := Lib.hid (BD0.out.turn TC0b.out)
    obtain ⟨r0, r1, r2, r3, r4, r5, r6, r7, r8⟩ : cc0b.cell? ⟨p0a, 0, none⟩ = some (.int .i64 (G0.kind)) ∧ cc0b.cell? ⟨p0a, 1, none⟩ = some (.int .i64 (G0.slot)) ∧ cc0b.cell? ⟨p0a, 2, none⟩ = some (.string (BT G0.actor)) ∧ cc0b.cell? ⟨p0a, 3, none⟩ = some (.int .i64 (G0.pc)) ∧ cc0b.cell? ⟨p0a, 4, none⟩ = some (.string (BT G0.chan)) ∧ cc0b.cell? ⟨p0a, 5, none⟩ = some (.int .i64 (G0.side)) ∧ cc0b.cell? ⟨p0a, 6, none⟩ = some (.int .i64 (G0.tag)) ∧ cc0b.cell? ⟨p0a, 7, none⟩ = some (.int .i64 (G0.word)) ∧ cc0b.cell? ⟨p0a, 8, none⟩ = some (.string (BT G0.name)) := evCells BE0.out
    obtain ⟨s0, s1, s2, s3, s4, s5, s6, s7, s8⟩ : cc0b.cell? ⟨p0b, 0, none⟩ = some (.int .i64 (G0.kind)) ∧ cc0b.cell? ⟨p0b, 1, none⟩ = some (.int .i64 (G0.slot)) ∧ cc0b.cell? ⟨p0b, 2, none⟩ = some (.string (BT G0.actor)) ∧ cc0b.cell? ⟨p0b, 3, none⟩ = some (.int .i64 (G0.pc)) ∧ cc0b.cell? ⟨p0b, 4, none⟩ = some (.string (BT G0.chan)) ∧ cc0b.cell? ⟨p0b, 5, none⟩ = some (.int .i64 (G0.side)) ∧ cc0b.cell? ⟨p0b, 6, none⟩ = some (.int .i64 (G0.tag)) ∧ cc0b.cell? ⟨p0b, 7, none⟩ = some (.int .i64 (G0.word)) ∧ cc0b.cell? ⟨p0b, 8, none⟩ = some (.string (BT G0.name)) := evCells BC0b.out
    have hne : ∀ W, (binOp BinOp.neq 34 (.agg (evC G0)) (.agg (evC G0))).run Tryz.prog W = .ok (.bool false) W := fun W => by rw [ev_neq, decide_eq_true rfl]; rfl
    unfold evC at hne
    go_wp2_with fail
    clear hne fc0b eb0b hp0b y0 y1 y2 y3 y4 y5 y6 y7 y8 z0 z1 z2 z3 z4 z5 z6 z7 z8 r0 r1 r2 r3 r4 r5 r6 r7 r8 s0 s1 s2 s3 s4 s5 s6 s7 s8
    rw [rounds_succ]
    have x1 : cc0b.cell? ⟨n + 2, 1, none⟩ = some (.string Z1) := cell_blk D1.out.txt
    go_wp2_with fail
    refine (HP1.out.1 _ D1.out.low).mono ?_
    rintro e u1 ⟨rfl, t⟩
    have Da1 := Lib.hid (D1.out.turn t)
    clear t x1
    obtain ⟨p1a, bb1a, cc1a, hp1a, eb1a, Bb1a, ec1a, Bc1a, tb1a, tc1a⟩ := evbox u1 G1
    have BC1a := Lib.hid Bc1a
    have TC1a := Lib.hid tc1a
    have fc1a : (((((((((bb1a.setCell ⟨p1a, 0, none⟩ (.int .i64 (G1.kind))).setCell ⟨p1a, 1, none⟩ (.int .i64 (G1.slot))).setCell ⟨p1a, 2, none⟩ (.string (BT G1.actor))).setCell ⟨p1a, 3, none⟩ (.int .i64 (G1.pc))).setCell ⟨p1a, 4, none⟩ (.string (BT G1.chan))).setCell ⟨p1a, 5, none⟩ (.int .i64 (G1.side))).setCell ⟨p1a, 6, none⟩ (.int .i64 (G1.tag))).setCell ⟨p1a, 7, none⟩ (.int .i64 (G1.word))).setCell ⟨p1a, 8, none⟩ (.string (BT G1.name))) = cc1a := ec1a
    obtain ⟨y0, y1, y2, y3, y4, y5, y6, y7, y8⟩ : bb1a.cell? ⟨p1a, 0, none⟩ = some (.int .i64 0) ∧ bb1a.cell? ⟨p1a, 1, none⟩ = some (.int .i64 0) ∧ bb1a.cell? ⟨p1a, 2, none⟩ = some (.string ⟨#[]⟩) ∧ bb1a.cell? ⟨p1a, 3, none⟩ = some (.int .i64 0) ∧ bb1a.cell? ⟨p1a, 4, none⟩ = some (.string ⟨#[]⟩) ∧ bb1a.cell? ⟨p1a, 5, none⟩ = some (.int .i64 0) ∧ bb1a.cell? ⟨p1a, 6, none⟩ = some (.int .i64 0) ∧ bb1a.cell? ⟨p1a, 7, none⟩ = some (.int .i64 0) ∧ bb1a.cell? ⟨p1a, 8, none⟩ = some (.string ⟨#[]⟩) := evCells Bb1a
    obtain ⟨z0, z1, z2, z3, z4, z5, z6, z7, z8⟩ := evFree Bb1a
    clear Bb1a ec1a Bc1a tb1a tc1a
    have Db1 := Lib.hid (Da1.out.turn TC1a.out)
    have x1 : cc1a.cell? ⟨n + 2, 1, none⟩ = some (.string Z1) := cell_blk Db1.out.txt
    go_wp2_with fail
    refine (HP1.out.2 _ Db1.out.low).mono ?_
    rintro e v1 ⟨rfl, t⟩
    have Dd1 := Lib.hid (Db1.out.turn t)
    have BD1 := Lib.hid (BC1a.out.turn t)
    clear t x1 fc1a eb1a hp1a y0 y1 y2 y3 y4 y5 y6 y7 y8 z0 z1 z2 z3 z4 z5 z6 z7 z8
    obtain ⟨p1b, bb1b, cc1b, hp1b, eb1b, Bb1b, ec1b, Bc1b, tb1b, tc1b⟩ := evbox v1 G1
    have BC1b := Lib.hid Bc1b
    have TC1b := Lib.hid tc1b
    have fc1b : (((((((((bb1b.setCell ⟨p1b, 0, none⟩ (.int .i64 (G1.kind))).setCell ⟨p1b, 1, none⟩ (.int .i64 (G1.slot))).setCell ⟨p1b, 2, none⟩ (.string (BT G1.actor))).setCell ⟨p1b, 3, none⟩ (.int .i64 (G1.pc))).setCell ⟨p1b, 4, none⟩ (.string (BT G1.chan))).setCell ⟨p1b, 5, none⟩ (.int .i64 (G1.side))).setCell ⟨p1b, 6, none⟩ (.int .i64 (G1.tag))).setCell ⟨p1b, 7, none⟩ (.int .i64 (G1.word))).setCell ⟨p1b, 8, none⟩ (.string (BT G1.name))) = cc1b := ec1b
    obtain ⟨y0, y1, y2, y3, y4, y5, y6, y7, y8⟩ : bb1b.cell? ⟨p1b, 0, none⟩ = some (.int .i64 0) ∧ bb1b.cell? ⟨p1b, 1, none⟩ = some (.int .i64 0) ∧ bb1b.cell? ⟨p1b, 2, none⟩ = some (.string ⟨#[]⟩) ∧ bb1b.cell? ⟨p1b, 3, none⟩ = some (.int .i64 0) ∧ bb1b.cell? ⟨p1b, 4, none⟩ = some (.string ⟨#[]⟩) ∧ bb1b.cell? ⟨p1b, 5, none⟩ = some (.int .i64 0) ∧ bb1b.cell? ⟨p1b, 6, none⟩ = some (.int .i64 0) ∧ bb1b.cell? ⟨p1b, 7, none⟩ = some (.int .i64 0) ∧ bb1b.cell? ⟨p1b, 8, none⟩ = some (.string ⟨#[]⟩) := evCells Bb1b
    obtain ⟨z0, z1, z2, z3, z4, z5, z6, z7, z8⟩ := evFree Bb1b
    clear Bb1b ec1b Bc1b tb1b tc1b
    have D2 := Lib.hid (Dd1.out.turn TC1b.out)
    have BE1 := Lib.hid (BD1.out.turn TC1b.out)
    obtain ⟨r0, r1, r2, r3, r4, r5, r6, r7, r8⟩ : cc1b.cell? ⟨p1a, 0, none⟩ = some (.int .i64 (G1.kind)) ∧ cc1b.cell? ⟨p1a, 1, none⟩ = some (.int .i64 (G1.slot)) ∧ cc1b.cell? ⟨p1a, 2, none⟩ = some (.string (BT G1.actor)) ∧ cc1b.cell? ⟨p1a, 3, none⟩ = some (.int .i64 (G1.pc)) ∧ cc1b.cell? ⟨p1a, 4, none⟩ = some (.string (BT G1.chan)) ∧ cc1b.cell? ⟨p1a, 5, none⟩ = some (.int .i64 (G1.side)) ∧ cc1b.cell? ⟨p1a, 6, none⟩ = some (.int .i64 (G1.tag)) ∧ cc1b.cell? ⟨p1a, 7, none⟩ = some (.int .i64 (G1.word)) ∧ cc1b.cell? ⟨p1a, 8, none⟩ = some (.string (BT G1.name)) := evCells BE1.out
    obtain ⟨s0, s1, s2, s3, s4, s5, s6, s7, s8⟩ : cc1b.cell? ⟨p1b, 0, none⟩ = some (.int .i64 (G1.kind)) ∧ cc1b.cell? ⟨p1b, 1, none⟩ = some (.int .i64 (G1.slot)) ∧ cc1b.cell? ⟨p1b, 2, none⟩ = some (.string (BT G1.actor)) ∧ cc1b.cell? ⟨p1b, 3, none⟩ = some (.int .i64 (G1.pc)) ∧ cc1b.cell? ⟨p1b, 4, none⟩ = some (.string (BT G1.chan)) ∧ cc1b.cell? ⟨p1b, 5, none⟩ = some (.int .i64 (G1.side)) ∧ cc1b.cell? ⟨p1b, 6, none⟩ = some (.int .i64 (G1.tag)) ∧ cc1b.cell? ⟨p1b, 7, none⟩ = some (.int .i64 (G1.word)) ∧ cc1b.cell? ⟨p1b, 8, none⟩ = some (.string (BT G1.name)) := evCells BC1b.out
    have hne : ∀ W, (binOp BinOp.neq 34 (.agg (evC G1)) (.agg (evC G1))).run Tryz.prog W = .ok (.bool false) W := fun W => by rw [ev_neq, decide_eq_true rfl]; rfl
    unfold evC at hne
    go_wp2_with fail
    clear hne fc1b eb1b hp1b y0 y1 y2 y3 y4 y5 y6 y7 y8 z0 z1 z2 z3 z4 z5 z6 z7 z8 r0 r1 r2 r3 r4 r5 r6 r7 r8 s0 s1 s2 s3 s4 s5 s6 s7 s8
    rw [rounds_succ]
    have x2 : cc1b.cell? ⟨n + 2, 2, none⟩ = some (.string Z2) := cell_blk D2.out.txt
    go_wp2_with fail
    refine (HP2.out.1 _ D2.out.low).mono ?_
    rintro e u2 ⟨rfl, t⟩
    have Da2 := Lib.hid (D2.out.turn t)
    clear t x2
    obtain ⟨p2a, bb2a, cc2a, hp2a, eb2a, Bb2a, ec2a, Bc2a, tb2a, tc2a⟩ := evbox u2 G2
    have BC2a := Lib.hid Bc2a
    have TC2a := Lib.hid tc2a
    have fc2a : (((((((((bb2a.setCell ⟨p2a, 0, none⟩ (.int .i64 (G2.kind))).setCell ⟨p2a, 1, none⟩ (.int .i64 (G2.slot))).setCell ⟨p2a, 2, none⟩ (.string (BT G2.actor))).setCell ⟨p2a, 3, none⟩ (.int .i64 (G2.pc))).setCell ⟨p2a, 4, none⟩ (.string (BT G2.chan))).setCell ⟨p2a, 5, none⟩ (.int .i64 (G2.side))).setCell ⟨p2a, 6, none⟩ (.int .i64 (G2.tag))).setCell ⟨p2a, 7, none⟩ (.int .i64 (G2.word))).setCell ⟨p2a, 8, none⟩ (.string (BT G2.name))) = cc2a := ec2a
    obtain ⟨y0, y1, y2, y3, y4, y5, y6, y7, y8⟩ : bb2a.cell? ⟨p2a, 0, none⟩ = some (.int .i64 0) ∧ bb2a.cell? ⟨p2a, 1, none⟩ = some (.int .i64 0) ∧ bb2a.cell? ⟨p2a, 2, none⟩ = some (.string ⟨#[]⟩) ∧ bb2a.cell? ⟨p2a, 3, none⟩ = some (.int .i64 0) ∧ bb2a.cell? ⟨p2a, 4, none⟩ = some (.string ⟨#[]⟩) ∧ bb2a.cell? ⟨p2a, 5, none⟩ = some (.int .i64 0) ∧ bb2a.cell? ⟨p2a, 6, none⟩ = some (.int .i64 0) ∧ bb2a.cell? ⟨p2a, 7, none⟩ = some (.int .i64 0) ∧ bb2a.cell? ⟨p2a, 8, none⟩ = some (.string ⟨#[]⟩) := evCells Bb2a
    obtain ⟨z0, z1, z2, z3, z4, z5, z6, z7, z8⟩ := evFree Bb2a
    clear Bb2a ec2a Bc2a tb2a tc2a
    have Db2 := Lib.hid (Da2.out.turn TC2a.out)
    have x2 : cc2a.cell? ⟨n + 2, 2, none⟩ = some (.string Z2) := cell_blk Db2.out.txt
    go_wp2_with fail
    refine (HP2.out.2 _ Db2.out.low).mono ?_
    rintro e v2 ⟨rfl, t⟩
    have Dd2 := Lib.hid (Db2.out.turn t)
    have BD2 := Lib.hid (BC2a.out.turn t)
    clear t x2 fc2a eb2a hp2a y0 y1 y2 y3 y4 y5 y6 y7 y8 z0 z1 z2 z3 z4 z5 z6 z7 z8
    obtain ⟨p2b, bb2b, cc2b, hp2b, eb2b, Bb2b, ec2b, Bc2b, tb2b, tc2b⟩ := evbox v2 G2
    have BC2b := Lib.hid Bc2b
    have TC2b := Lib.hid tc2b
    have fc2b : (((((((((bb2b.setCell ⟨p2b, 0, none⟩ (.int .i64 (G2.kind))).setCell ⟨p2b, 1, none⟩ (.int .i64 (G2.slot))).setCell ⟨p2b, 2, none⟩ (.string (BT G2.actor))).setCell ⟨p2b, 3, none⟩ (.int .i64 (G2.pc))).setCell ⟨p2b, 4, none⟩ (.string (BT G2.chan))).setCell ⟨p2b, 5, none⟩ (.int .i64 (G2.side))).setCell ⟨p2b, 6, none⟩ (.int .i64 (G2.tag))).setCell ⟨p2b, 7, none⟩ (.int .i64 (G2.word))).setCell ⟨p2b, 8, none⟩ (.string (BT G2.name))) = cc2b := ec2b
    obtain ⟨y0, y1, y2, y3, y4, y5, y6, y7, y8⟩ : bb2b.cell? ⟨p2b, 0, none⟩ = some (.int .i64 0) ∧ bb2b.cell? ⟨p2b, 1, none⟩ = some (.int .i64 0) ∧ bb2b.cell? ⟨p2b, 2, none⟩ = some (.string ⟨#[]⟩) ∧ bb2b.cell? ⟨p2b, 3, none⟩ = some (.int .i64 0) ∧ bb2b.cell? ⟨p2b, 4, none⟩ = some (.string ⟨#[]⟩) ∧ bb2b.cell? ⟨p2b, 5, none⟩ = some (.int .i64 0) ∧ bb2b.cell? ⟨p2b, 6, none⟩ = some (.int .i64 0) ∧ bb2b.cell? ⟨p2b, 7, none⟩ = some (.int .i64 0) ∧ bb2b.cell? ⟨p2b, 8, none⟩ = some (.string ⟨#[]⟩) := evCells Bb2b
    obtain ⟨z0, z1, z2, z3, z4, z5, z6, z7, z8⟩ := evFree Bb2b
    clear Bb2b ec2b Bc2b tb2b tc2b
    have D3 := Lib.hid (Dd2.out.turn TC2b.out)
    have BE2 := Lib.hid (BD2.out.turn TC2b.out)
    obtain ⟨r0, r1, r2, r3, r4, r5, r6, r7, r8⟩ : cc2b.cell? ⟨p2a, 0, none⟩ = some (.int .i64 (G2.kind)) ∧ cc2b.cell? ⟨p2a, 1, none⟩ = some (.int .i64 (G2.slot)) ∧ cc2b.cell? ⟨p2a, 2, none⟩ = some (.string (BT G2.actor)) ∧ cc2b.cell? ⟨p2a, 3, none⟩ = some (.int .i64 (G2.pc)) ∧ cc2b.cell? ⟨p2a, 4, none⟩ = some (.string (BT G2.chan)) ∧ cc2b.cell? ⟨p2a, 5, none⟩ = some (.int .i64 (G2.side)) ∧ cc2b.cell? ⟨p2a, 6, none⟩ = some (.int .i64 (G2.tag)) ∧ cc2b.cell? ⟨p2a, 7, none⟩ = some (.int .i64 (G2.word)) ∧ cc2b.cell? ⟨p2a, 8, none⟩ = some (.string (BT G2.name)) := evCells BE2.out
    obtain ⟨s0, s1, s2, s3, s4, s5, s6, s7, s8⟩ : cc2b.cell? ⟨p2b, 0, none⟩ = some (.int .i64 (G2.kind)) ∧ cc2b.cell? ⟨p2b, 1, none⟩ = some (.int .i64 (G2.slot)) ∧ cc2b.cell? ⟨p2b, 2, none⟩ = some (.string (BT G2.actor)) ∧ cc2b.cell? ⟨p2b, 3, none⟩ = some (.int .i64 (G2.pc)) ∧ cc2b.cell? ⟨p2b, 4, none⟩ = some (.string (BT G2.chan)) ∧ cc2b.cell? ⟨p2b, 5, none⟩ = some (.int .i64 (G2.side)) ∧ cc2b.cell? ⟨p2b, 6, none⟩ = some (.int .i64 (G2.tag)) ∧ cc2b.cell? ⟨p2b, 7, none⟩ = some (.int .i64 (G2.word)) ∧ cc2b.cell? ⟨p2b, 8, none⟩ = some (.string (BT G2.name)) := evCells BC2b.out
    have hne : ∀ W, (binOp BinOp.neq 34 (.agg (evC G2)) (.agg (evC G2))).run Tryz.prog W = .ok (.bool false) W := fun W => by rw [ev_neq, decide_eq_true rfl]; rfl
    unfold evC at hne
    go_wp2_with fail
    clear hne fc2b eb2b hp2b y0 y1 y2 y3 y4 y5 y6 y7 y8 z0 z1 z2 z3 z4 z5 z6 z7 z8 r0 r1 r2 r3 r4 r5 r6 r7 r8 s0 s1 s2 s3 s4 s5 s6 s7 s8
    rw [rounds_succ]
    go_wp2_with fail
    refine (HW.out _ D3.out.low).mono ?_
    rintro e u ⟨rfl, t⟩
    have TE := Lib.hid (D3.out.low.trans t)
    clear t
    go_wp2_with fail
    go_ret
    exact ⟨rfl, TE.out⟩
end
section
open Go.ChangeShapes Go.WideShapes Go.ChangeAt Go.RowKit

theorem cut1000 {s : Bs} : (BT s).extract 0 (min (BT s).size 1000) = BT (s.take 1000) := by
  rw [BT_size, BT_ext_take (l := s) (k := min s.length 1000) (by omega)]
  congr 1
  by_cases h1 : s.length ≤ 1000
  · rw [Nat.min_eq_left h1, List.take_length, List.take_of_length_le h1]
  · rw [Nat.min_eq_right (by omega)]
theorem bt_data (s : ByteArray) : BT s.data.toList = s := by cases s; unfold BT; simp
theorem parse_nil : parseD [] = none := by rfl
theorem text_pos {E : EventD} {s : Bs} (hi : Int64 E.slot) (h : textD E = some s) : 0 < s.length := by
  cases s with
  | nil => have := text_back hi h; rw [parse_nil] at this; cases this
  | cons a r => simp
theorem reads_any {x : ActD} {va vc vn : Value} {a b : UInt8} {s : Bs} {w : World} (hw : Laid w) (h : ActOk x) (ha : ByteSl w va x.actor) (hc : ByteSl w vc x.chan) (hn : ByteSl w vn x.name) (hs : s.length ≤ 9223372036854775807) :
    Calls Tryz.prog 5 #[.string (BT s), .agg #[.int .u8 (x.kind : Int), va, vc, vn, .int .u8 (x.side : Int), .int .u8 (x.tag : Int), .int .i64 x.word, .int .u8 (x.odd : Int)], .agg #[.int .u8 (a.toNat : Int), .int .u8 (b.toNat : Int)]] w fun e w' => e = .returned (.bool true) ∧ Turn Nn w w' := by
  have hsm := event_small h
  have hsz : (BT s).size = s.length := BT_size s
  have hlz : (s.take 1000).length ≤ 1000 := by rw [List.length_take]; omega
  have hp : ∀ y : Bs, y.length ≤ 1100000 → Gives w 24 #[.string (BT y)] (.tuple #[.agg (evC (parseC y).1), .int .i64 (parseC y).2]) ∧ Gives w 25 #[.string (BT y)] (.tuple #[.agg (evC (parseC y).1), .int .i64 (parseC y).2]) :=
    fun y hy => ⟨gives_parse hw (by omega), fun u _ => rparse_any hy u⟩
  have key : ∀ (T : Bs) (c : Int), textC (eventE x) = (T, c) → (c = 0 ∧ 0 < T.length ∨ c ≠ 0) → T.length ≤ 1100000 →
      Calls Tryz.prog 5 #[.string (BT s), .agg #[.int .u8 (x.kind : Int), va, vc, vn, .int .u8 (x.side : Int), .int .u8 (x.tag : Int), .int .i64 x.word, .int .u8 (x.odd : Int)], .agg #[.int .u8 (a.toNat : Int), .int .u8 (b.toNat : Int)]] w fun e w' => e = .returned (.bool true) ∧ Turn Nn w w' := fun T c hT hc0 hTl =>
    reads_walk (gives_works hw) (gives_event h ha hc hn) (fun u _ => by have := rText_any hsm u; rw [hT] at this; exact this) hc0 hTl hp cut1000 hlz (by omega)
  cases ht : textD (eventE x) with
  | some t =>
    have hle := text_le (event_sm h) hsm.ints ht
    exact key t 0 (textC_some ht) (.inl ⟨rfl, text_pos hsm.ints.slot ht⟩) (by omega)
  | none => exact key [] 2 (textC_none ht) (.inr (by decide)) (by simp)
theorem cellsOf42 : Tryz.prog.cellsOf 42 = 2 := by kernel_rfl
set_option maxRecDepth 100000 in
theorem pair_came {H : Type} {enc : TypeId × Value → H} {W : World} {base : Nat} {v : Value} {d : DataW H} {ps : List MemPlace}
    (hv : Value.okWide Tryz.prog W .any base 42 v) (h : DataW.Trod enc Tryz.prog W 0 (fun _ => true) true 42 v d ps) :
    ∃ (a b : UInt8), v = .agg #[.int .u8 (a.toNat : Int), .int .u8 (b.toNat : Int)] := by
  obtain ⟨⟨L⟩, rfl, hsz⟩ := okWide_arr Tryz.underlying42 hv
  obtain ⟨fuel, hf⟩ := h
  rw [cellsOf42] at hsz
  have hL : L.length = 2 := by simpa using hsz
  match L, hL with
  | [c0, c1], _ =>
    replace hf : DataW.trod enc Tryz.prog W 0 (fun _ => true) true fuel 42 [c0, c1] = some (d, ps) := hf
    obtain ⟨zs, m, _, _, _, hxs, heach⟩ := DataW.trod_array Tryz.underlying42 hf
    have k0 := heach 0 (by omega)
    have k1 := heach 1 (by omega)
    rw [cellsOf5, List.getElem?_eq_getElem (by omega)] at k0 k1
    obtain ⟨x0, e0, _, w0⟩ := DataW.trod_int Tryz.underlying5 k0
    obtain ⟨x1, e1, _, w1⟩ := DataW.trod_int Tryz.underlying5 k1
    simp at e0 e1
    subst e0 e1
    obtain ⟨p0, q0⟩ := bounds_u8 w0
    obtain ⟨p1, q1⟩ := bounds_u8 w1
    refine ⟨UInt8.ofNat x0.toNat, UInt8.ofNat x1.toNat, ?_⟩
    have e0 : ((UInt8.ofNat x0.toNat).toNat : Int) = x0 := by rw [UInt8.toNat_ofNat_of_lt' (by show x0.toNat < 256; omega)]; omega
    have e1 : ((UInt8.ofNat x1.toNat).toNat : Int) = x1 := by rw [UInt8.toNat_ofNat_of_lt' (by show x1.toNat < 256; omega)]; omega
    rw [e0, e1]
end
end Go.Proofs.YtpbjblbeepbklaaGreatDoor
