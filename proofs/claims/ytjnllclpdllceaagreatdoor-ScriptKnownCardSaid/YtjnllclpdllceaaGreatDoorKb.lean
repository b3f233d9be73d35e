/- ScriptKnown's walk. Printed by gen_kb.py. -/
import Derived.Test.YtjnllclpdllceaaGreatDoorKa
import Derived.Test.YtjnllclpdllceaaGreatDoorVn
import Derived.Deep.DeepCutAuto
import Derived.Laws.Concat
import Derived.Laws.MakeOwn
import Derived.Test.YtjnllclpdllceaaGreatDoorHa
namespace Go.Proofs.YtjnllclpdllceaaGreatDoor
set_option linter.unusedSimpArgs false
set_option linter.unusedVariables false
open Go.RowKit Go.Shelf

theorem rep_eq (l : Bs) : ∀ c, Lib.repeatL l c = rep l c
  | 0 => rfl
  | c + 1 => by rw [Lib.repeatL, rep_eq l c, rep]
theorem rep_any {l : Bs} {c : Nat} (hc : c ≤ 1000000) (hl : l.length ≤ 1000000) (w : World) : Calls Tryz.prog 18 #[.string (BT l), .int .i64 (c : Int)] w fun e w' => e = .returned (.string (BT (rep l c))) ∧ Turn Nn w w' := by
  have hs : (BT l).size = l.length := by unfold BT; simp [ByteArray.size]
  have hd : (BT l).data.toList = l := by unfold BT; simp
  refine (Tryz.strings_Repeat (BT l) c w (by omega) (by rw [hs]; exact Nat.le_trans (Nat.mul_le_mul hl hc) (by decide))).mono ?_
  rintro e w' ⟨rfl, h⟩
  refine ⟨?_, Turn.of_below h⟩
  rw [hd, rep_eq]
  rfl

theorem kstr {a b c : Bs} (h : a ++ b = c) (hl : a.length + b.length ≤ 9223372036854775807) (W : World) : (Op.stringOp .add (BT a) (BT b)).run Tryz.prog W = .ok (.string (BT c)) W := by
  have ha : (BT a).size = a.length := by unfold BT; simp [ByteArray.size]
  have hb : (BT b).size = b.length := by unfold BT; simp [ByteArray.size]
  rw [run_string_add_sum W _ _ (by rw [ha, hb]; omega), BT_append, h]

def kq : Bs := [109, 97, 99, 104, 105, 110, 101, 32, 54, 52, 32, 51, 50, 32, 49, 54, 32, 116, 119, 105, 110, 10]
def kqS : ScriptD := ⟨64, 32, 16, true, [], []⟩
theorem kq_ok : parseD kq = .ok kqS := parse_print (by kernel_rfl)

/-- The rows: a text, and what is wrong with it. -/
def kRows_ : List (Bs × Int × Nat) := [(kt0, 5, 0), (kt1, 5, 0), (kt2, 2, 0), (kt3, 2, 0), (kt4, 2, 0), (kt5, 2, 0), (kt6, 5, 0), (kt7, 5, 0), (kt8, 5, 0), (kt9, 5, 0), (kt10, 5, 0), (kt11, 5, 0), (kt12, 5, 1), (kt13, 5, 1), (kt14, 2, 1), (kt15, 2, 1), (kt16, 2, 1), (kt17, 5, 1), (kt18, 5, 1), (kt19, 2, 1), (kt20, 5, 1), (kt21, 5, 2), (kt22, 5, 2), (kt23, 5, 1), (kt24, 5, 1), (kt25, 5, 1), (kt26, 5, 1), (kt27, 5, 2), (kt28, 5, 1), (kBigA 2730, 4, 2730 + 1), (kBigB (4096 + 1), 4, 4096 + 1), (kBigC 4096, 2, 4096 + 1)]
def rowCells (r : Bs × Int × Nat) : List Value := [.string (BT r.1), .int .i64 r.2.1, .int .i64 (r.2.2 : Nat)]
theorem kRows_bad : ∀ r ∈ kRows_, parseD r.1 = .error (r.2.1, r.2.2) ∧ r.1.length ≤ 799998 ∧ r.2.1 ≠ 0 := by
  intro r hr
  simp only [kRows_, List.mem_cons, List.not_mem_nil, or_false] at hr
  have lA : (kBigA 2730).length ≤ 799998 := by unfold kBigA kHead kFull; simp only [List.length_append, rep_length, List.length_cons, List.length_nil]; omega
  have lB : (kBigB (4096 + 1)).length ≤ 799998 := by unfold kBigB kHead; simp only [List.length_append, rep_length, List.length_cons, List.length_nil]; omega
  have lC : (kBigC 4096).length ≤ 799998 := by unfold kBigC kHead; simp only [List.length_append, rep_length, List.length_cons, List.length_nil]; omega
  rcases hr with rfl | rfl | rfl | rfl | rfl | rfl | rfl | rfl | rfl | rfl | rfl | rfl | rfl | rfl | rfl | rfl | rfl | rfl | rfl | rfl | rfl | rfl | rfl | rfl | rfl | rfl | rfl | rfl | rfl | rfl | rfl | rfl
  · exact ⟨kt0_bad, by decide, by decide⟩
  · exact ⟨kt1_bad, by decide, by decide⟩
  · exact ⟨kt2_bad, by decide, by decide⟩
  · exact ⟨kt3_bad, by decide, by decide⟩
  · exact ⟨kt4_bad, by decide, by decide⟩
  · exact ⟨kt5_bad, by decide, by decide⟩
  · exact ⟨kt6_bad, by decide, by decide⟩
  · exact ⟨kt7_bad, by decide, by decide⟩
  · exact ⟨kt8_bad, by decide, by decide⟩
  · exact ⟨kt9_bad, by decide, by decide⟩
  · exact ⟨kt10_bad, by decide, by decide⟩
  · exact ⟨kt11_bad, by decide, by decide⟩
  · exact ⟨kt12_bad, by decide, by decide⟩
  · exact ⟨kt13_bad, by decide, by decide⟩
  · exact ⟨kt14_bad, by decide, by decide⟩
  · exact ⟨kt15_bad, by decide, by decide⟩
  · exact ⟨kt16_bad, by decide, by decide⟩
  · exact ⟨kt17_bad, by decide, by decide⟩
  · exact ⟨kt18_bad, by decide, by decide⟩
  · exact ⟨kt19_bad, by decide, by decide⟩
  · exact ⟨kt20_bad, by decide, by decide⟩
  · exact ⟨kt21_bad, by decide, by decide⟩
  · exact ⟨kt22_bad, by decide, by decide⟩
  · exact ⟨kt23_bad, by decide, by decide⟩
  · exact ⟨kt24_bad, by decide, by decide⟩
  · exact ⟨kt25_bad, by decide, by decide⟩
  · exact ⟨kt26_bad, by decide, by decide⟩
  · exact ⟨kt27_bad, by decide, by decide⟩
  · exact ⟨kt28_bad, by decide, by decide⟩
  · exact ⟨kBigA_bad (by decide) (by decide), lA, by decide⟩
  · exact ⟨kBigB_bad rfl, lB, by decide⟩
  · exact ⟨kBigC_bad (by decide), lC, by decide⟩

theorem BT_sizeK (l : Bs) : (BT l).size = l.length := by unfold BT; simp [ByteArray.size]
def kCells : Array Value := (kRows_.flatMap rowCells).toArray
theorem kCells_blk {w : World} {b : Nat} (C : Array Value) (h : C = kCells) (hb : w.heap[b]? = some (.cells C 57)) : w.heap[b]? = some (.cells kCells 57) := h ▸ hb
theorem rowsAt : ∀ (L : List (Bs × Int × Nat)) (i : Nat) (h : i < L.length), (L.flatMap rowCells)[i * 3]? = some (.string (BT L[i].1)) ∧ (L.flatMap rowCells)[i * 3 + 1]? = some (.int .i64 L[i].2.1) ∧ (L.flatMap rowCells)[i * 3 + 2]? = some (.int .i64 (L[i].2.2 : Nat))
  | [], i, h => by simp at h
  | t :: r, 0, _ => by simp [rowCells]
  | t :: r, i + 1, h => by
    have ih := rowsAt r i (by simpa using h)
    have e : (t :: r).flatMap rowCells = .string (BT t.1) :: .int .i64 t.2.1 :: .int .i64 (t.2.2 : Nat) :: r.flatMap rowCells := by simp [rowCells]
    rw [e, show (i + 1) * 3 = i * 3 + 1 + 1 + 1 by omega]
    exact ih
theorem kCells_cell {w : World} {b k : Nat} (h : w.heap[b]? = some (.cells kCells 57)) (hk : k < kRows_.length) :
    w.cell? ⟨b, k * 3, none⟩ = some (.string (BT kRows_[k].1)) ∧ w.cell? ⟨b, k * 3 + 1, none⟩ = some (.int .i64 kRows_[k].2.1) ∧ w.cell? ⟨b, k * 3 + 2, none⟩ = some (.int .i64 (kRows_[k].2.2 : Nat)) := by
  obtain ⟨a, c, d⟩ := rowsAt kRows_ k hk
  refine ⟨?_, ?_, ?_⟩ <;> rw [cell_blk h] <;> unfold kCells <;> rw [List.getElem?_toArray] <;> assumption
theorem cells3k {W : World} {B : Nat} {x0 x1 x2 : Value} {t1 : TypeId} (h1 : W.heap[B]? = some (.cells #[x0, x1, x2] t1)) :
    W.cell? ⟨B, 0, none⟩ = some x0 ∧ W.cell? ⟨B, 1, none⟩ = some x1 ∧ W.cell? ⟨B, 2, none⟩ = some x2 :=
  ⟨by rw [cell_blk h1]; rfl, by rw [cell_blk h1]; rfl, by rw [cell_blk h1]; rfl⟩
theorem TSl.setK {w w0 : World} {v : Value} {ts : List TurnD} {o : Nat} {x : Value} (h : TSl w v ts) (h0 : TSl w0 v ts) (hne : ts ≠ []) : TSl (w.setCell ⟨w0.heap.size, o, none⟩ x) v ts := by
  rcases h with ⟨e, _⟩ | ⟨b, o1, cap, rfl, h2, h3⟩
  · exact absurd e hne
  · have hl : b < w0.heap.size := by
      rcases h0 with ⟨e, _⟩ | ⟨b0, o0, cap0, e0, _, h4⟩
      · exact absurd e hne
      · cases e0
        have hp : 0 < ts.length := by cases ts with | nil => exact absurd rfl hne | cons => simp
        exact World.block_lt_of_cell? w0 _ (h4 0 hp).1
    refine .inr ⟨b, o1, cap, rfl, h2, fun i hi => ?_⟩
    have hn : b ≠ w0.heap.size := by omega
    have key : ∀ k u, w.cell? ⟨b, k, none⟩ = some u → (w.setCell ⟨w0.heap.size, o, none⟩ x).cell? ⟨b, k, none⟩ = some u := fun k u hu =>
      (World.cell?_setCell_other _ _ _ _ (fun e => hn (by have := congrArg Addr.block e; exact this.symm))).trans hu
    exact ⟨key _ _ (h3 i hi).1, key _ _ (h3 i hi).2.1, key _ _ (h3 i hi).2.2⟩
theorem blk_setK {w : World} {b c o : Nat} {x : Value} {ob : Obj} (h : w.heap[c]? = some ob) (hne : c ≠ b) : (w.setCell ⟨b, o, none⟩ x).heap[c]? = some ob := by
  rw [Below.heap_setCell _ _ _ _ (fun e => hne e)]
  exact h
def kOne (k a c : Int) : ScriptD := ⟨1, 1, 1, false, [], [⟨k, a, c⟩]⟩
theorem kz_no : printD zeroS = ([], 2) := by kernel_rfl
theorem kOne_no0 : printD (kOne 2 0 1) = ([], 2) := by kernel_rfl
theorem kOne_no1 : printD (kOne 4 0 0) = ([], 2) := by kernel_rfl
theorem kOne_no2 : printD (kOne 1 1 1) = ([], 2) := by kernel_rfl
theorem one_sl {w : World} {b : Nat} {k a c : Int} (h : w.heap[b]? = some (.cells #[.int .i64 k, .int .i64 a, .int .i64 c] 60)) : TSl w (.slice (some ⟨b, 0, none⟩) 1 1) (kOne k a c).turns :=
  .inr ⟨b, 0, 1, rfl, Nat.le_refl _, fun i hi => by
    have hi : i < 1 := hi
    rcases i with _ | i
    · exact ⟨by rw [cell_blk h]; rfl, by rw [cell_blk h]; rfl, by rw [cell_blk h]; rfl⟩
    · omega⟩
def CS (b : Nat) (u : World) : Prop := u.cell? ⟨b, 0, none⟩ = some (.int .i64 1) ∧ u.cell? ⟨b, 1, none⟩ = some (.int .i64 1) ∧ u.cell? ⟨b, 2, none⟩ = some (.int .i64 1)
theorem kCS {w : World} {b : Nat} (h : w.heap[b]? = some (.cells #[.int .i64 1, .int .i64 1, .int .i64 1] 23)) : CS b w := cells3k h
def kMade : Array Value := madeCells #[.int .i64 0, .int .i64 0, .int .i64 0] 12291
set_option maxRecDepth 100000 in
theorem kMakeG (w : World) (n : Nat) (hn : n ≤ 100000) : (Instr.makeSlice 24 (.int .i64 n) (.int .i64 n)).run Tryz.prog w = .ok (.slice (some ⟨w.heap.size, 0, none⟩) n n) (w.alloc (.cells (madeCells #[.int .i64 0, .int .i64 0, .int .i64 0] (n * 3)) 60)) := by
  obtain ⟨i, hi, hz, hs, hb⟩ : ∃ i, Tryz.prog.info? 60 = some i ∧ i.zero = some (.agg #[.int .i64 0, .int .i64 0, .int .i64 0]) ∧ i.size = 3 ∧ i.bytes = 24 := ⟨_, rfl, rfl, rfl, rfl⟩
  have h := run_makeSlice (P := Tryz.prog) w 24 60 i _ rfl hi hz .i64 .i64 n n (by omega) (by omega) (by rw [hs]; omega) (by rw [hb]; omega) (by omega)
  rw [hs, Int.toNat_natCast] at h
  exact h
theorem kMake (w : World) : (Instr.makeSlice 24 (.int .i64 4097) (.int .i64 4097)).run Tryz.prog w = .ok (.slice (some ⟨w.heap.size, 0, none⟩) 4097 4097) (w.alloc (.cells kMade 60)) := kMakeG w 4097 (by decide)
def kMany : ScriptD := ⟨1, 1, 1, false, [], List.replicate 4097 ⟨0, 0, 0⟩⟩
theorem kMany_no : printD kMany = ([], 2) := by
  unfold printD kMany
  rw [if_pos (.inr (List.any_eq_true.mpr ⟨⟨0, 0, 0⟩, List.mem_replicate.mpr ⟨by decide, rfl⟩, by decide⟩))]
theorem made3_at (n j : Nat) (h : j < n) : (madeCells #[.int .i64 0, .int .i64 0, .int .i64 0] n)[j]? = some (.int .i64 0) := by
  unfold madeCells
  rw [Array.getElem?_map, Array.getElem?_range, if_pos h]
  have h3 : j % 3 < 3 := Nat.mod_lt _ (by decide)
  show some ((#[Value.int .i64 0, .int .i64 0, .int .i64 0] : Array Value)[j % 3]!) = _
  generalize j % 3 = q at h3
  rcases q with _ | _ | _ | q
  · rfl
  · rfl
  · rfl
  · omega
theorem kMade_at (j : Nat) (h : j < 12291) : kMade[j]? = some (.int .i64 0) := made3_at 12291 j h
theorem kMany_len : kMany.turns.length = 4097 := List.length_replicate
theorem kMany_get (i : Nat) (h : i < kMany.turns.length) : kMany.turns[i] = ⟨0, 0, 0⟩ := List.eq_of_mem_replicate (n := 4097) (List.getElem_mem h)
theorem kMade_sl {w : World} {b : Nat} (h : w.heap[b]? = some (.cells kMade 60)) : TSl w (.slice (some ⟨b, 0, none⟩) kMany.turns.length 4097) kMany.turns := by
  refine .inr ⟨b, 0, 4097, rfl, Nat.le_of_eq kMany_len, fun i hi => ?_⟩
  have hi' : i < 4097 := kMany_len ▸ hi
  have k : ∀ j, j < 12291 → w.cell? ⟨b, j, none⟩ = some (.int .i64 0) := fun j hj => by rw [cell_blk h]; exact kMade_at j hj
  rw [kMany_get i hi]
  exact ⟨k _ (by omega), k _ (by omega), k _ (by omega)⟩
def kMod : Bs := rep [48, 97] 12 ++ [48]
def kS9 : ScriptD := ⟨1, 1, 1, true, kMod, [⟨0, 99, 1000⟩]⟩
def kZ1 : Bs := [109, 97, 99, 104, 105, 110, 101, 32, 49, 32, 49, 32, 49, 32, 116, 119, 105, 110, 10, 98, 121, 116, 101, 115, 32] ++ rep [51, 48, 54, 49] 12
def kText9 : Bs := kZ1 ++ [10, 98, 121, 116, 101, 115, 32, 51, 48, 10, 112, 105, 99, 107, 32, 57, 57, 32, 49, 48, 48, 48, 10]
theorem kS9_yes : printD kS9 = (kText9, 0) := by kernel_rfl
theorem kFull_len : kFull.length = 55 := by unfold kFull; rw [List.length_append, List.length_append, rep_length]; rfl
set_option maxRecDepth 100000 in
set_option maxHeartbeats 40000000 in
theorem known_any {w : World} (hlw : Laid w) (hmx : Mx w) (he : ET w) :
    Calls Tryz.prog 7 #[] w fun e w' => e = .returned (.bool true) ∧ Turn Nn w w' := by
  have W1 := Lib.hid (works_any hlw hmx he)
  have HL := Lib.hid hlw
  have HMX := Lib.hid hmx
  have HE := Lib.hid he
  clear hlw hmx he
  go_enter Tryz.func7, Tryz.ntmps7
  go_wp2_with fail
  refine W1.out.mono ?_
  rintro e w2 ⟨rfl, t2⟩
  have T2 := Lib.hid t2
  clear t2
  go_wp2_with fail
  refine (parse_big kq (HL.out.turn T2.out) (HMX.out.turn T2.out) (by decide)).mono ?_
  rintro e w3 ⟨hp, t3⟩
  rw [kq_ok] at hp
  obtain ⟨v', rfl, ho⟩ := hp
  obtain ⟨pw, cw, rfl⟩ := (TSl.own ho).shape
  have V3 := Lib.hid (TSl.own ho)
  have T3 := Lib.hid (T2.out.trans t3)
  clear ho t3
  simp only [scriptV]
  go_upto_region 4 with (fail)
  generalize hW : World.alloc w3 _ = w4
  obtain ⟨b4, t4⟩ := alloc1 hW
  obtain ⟨g0, g1, g2, g3, g4, g5⟩ := cells6 b4
  have T4 := Lib.hid (T3.out.trans t4)
  have V4 := Lib.hid (V3.out.turn t4)
  clear hW b4 t4
  go_wp2_with fail
  refine (same_any (s := kqS) V4.out (.inl ⟨rfl, none, 0, rfl⟩) (by decide)).mono ?_
  rintro e w5 ⟨rfl, t5⟩
  have T5 := Lib.hid (T4.out.trans t5)
  clear t5 g0 g1 g2 g3 g4 g5
  go_wp2_with fail
  refine (rep_any (l := [48, 97]) (c := 24) (by decide) (by decide) _).mono ?_
  rintro e w6 ⟨rfl, t6⟩
  have T6 := Lib.hid (T5.out.trans t6)
  clear t6
  have lF := kFull_len
  obtain ⟨F1, hF1⟩ : ∃ X, ([98, 121, 116, 101, 115, 32] : Bs) ++ rep [48, 97] 24 = X := ⟨_, rfl⟩
  obtain ⟨P1, hP1⟩ : ∃ X, kHead ++ [98, 121, 116, 101, 115, 32] = X := ⟨_, rfl⟩
  obtain ⟨P2, hP2⟩ : ∃ X, P1 ++ rep [48, 48] 25 = X := ⟨_, rfl⟩
  obtain ⟨D1, hD1⟩ : ∃ X, kHead ++ rep kFull 2730 = X := ⟨_, rfl⟩
  obtain ⟨D2, hD2⟩ : ∃ X, D1 ++ [98, 121, 116, 101, 115, 32] = X := ⟨_, rfl⟩
  obtain ⟨D3, hD3⟩ : ∃ X, D2 ++ rep [48, 97] 17 = X := ⟨_, rfl⟩
  obtain ⟨C1, hC1⟩ : ∃ X, kHead ++ rep [114, 111, 119, 115, 10] 4096 = X := ⟨_, rfl⟩
  have q0 : kHead.length = 14 := rfl
  have l1 : (rep [48, 97] 24).length = 48 := rep_length _ _
  have l2 : (rep [48, 48] 25).length = 50 := rep_length _ _
  have l3 : (rep kFull 2730).length = 150150 := by rw [rep_length, lF]
  have l4 : (rep [48, 97] 17).length = 34 := rep_length _ _
  have l5 : (rep [114, 111, 119, 115, 10] (4096 + 1)).length = 20485 := rep_length _ _
  have l6 : (rep [114, 111, 119, 115, 10] 4096).length = 20480 := rep_length _ _
  have l7 : ([98, 121, 116, 101, 115, 32] : Bs).length = 6 := rfl
  have q1 : F1.length = 54 := by rw [← hF1, List.length_append, l1, l7]
  have q2 : P1.length = 20 := by rw [← hP1, List.length_append, q0, l7]
  have q3 : P2.length = 70 := by rw [← hP2, List.length_append, q2, l2]
  have q4 : D1.length = 150164 := by rw [← hD1, List.length_append, q0, l3]
  have q5 : D2.length = 150170 := by rw [← hD2, List.length_append, q4, l7]
  have q6 : D3.length = 150204 := by rw [← hD3, List.length_append, q5, l4]
  have q7 : C1.length = 20494 := by rw [← hC1, List.length_append, q0, l6]
  have k1 : F1 ++ [10] = kFull := by rw [← hF1]; unfold kFull; rfl
  have k2 : P2 ++ [10] = kt28 := by rw [← hP2, ← hP1]; rfl
  have k3 : D3 ++ [10] = kBigA 2730 := by rw [← hD3, ← hD2, ← hD1]; unfold kBigA; rfl
  have k4 : kHead ++ rep [114, 111, 119, 115, 10] (4096 + 1) = kBigB (4096 + 1) := by unfold kBigB; rfl
  have k5 : C1 ++ [112, 105, 99, 107, 32, 48, 32, 48, 10] = kBigC 4096 := by rw [← hC1]; unfold kBigC; rfl
  have b1 : ∀ W : World, (Op.stringOp .add ⟨#[98, 121, 116, 101, 115, 32]⟩ (BT (rep [48, 97] 24))).run Tryz.prog W = .ok (.string (BT F1)) W := fun W => kstr (a := [98, 121, 116, 101, 115, 32]) hF1 (by simp only [l1, List.length_cons, List.length_nil]; omega) W
  have b2 : ∀ W : World, (Op.stringOp .add (BT F1) ⟨#[10]⟩).run Tryz.prog W = .ok (.string (BT kFull)) W := fun W => kstr (b := [10]) k1 (by simp only [q1, List.length_cons, List.length_nil]; omega) W
  have a12 : ∀ W : World, (Op.stringOp .add ⟨#[109, 97, 99, 104, 105, 110, 101, 32, 56, 32, 52, 32, 50, 10]⟩ ⟨#[10]⟩).run Tryz.prog W = .ok (.string (BT kt12)) W := fun W => kstr (a := [109, 97, 99, 104, 105, 110, 101, 32, 56, 32, 52, 32, 50, 10]) (b := [10]) (c := kt12) rfl (by decide) W
  have a13 : ∀ W : World, (Op.stringOp .add ⟨#[109, 97, 99, 104, 105, 110, 101, 32, 56, 32, 52, 32, 50, 10]⟩ ⟨#[109, 97, 99, 104, 105, 110, 101, 32, 56, 32, 52, 32, 50, 10]⟩).run Tryz.prog W = .ok (.string (BT kt13)) W := fun W => kstr (a := [109, 97, 99, 104, 105, 110, 101, 32, 56, 32, 52, 32, 50, 10]) (b := [109, 97, 99, 104, 105, 110, 101, 32, 56, 32, 52, 32, 50, 10]) (c := kt13) rfl (by decide) W
  have a14 : ∀ W : World, (Op.stringOp .add ⟨#[109, 97, 99, 104, 105, 110, 101, 32, 56, 32, 52, 32, 50, 10]⟩ ⟨#[112, 105, 99, 107, 32, 48, 32, 48, 10]⟩).run Tryz.prog W = .ok (.string (BT kt14)) W := fun W => kstr (a := [109, 97, 99, 104, 105, 110, 101, 32, 56, 32, 52, 32, 50, 10]) (b := [112, 105, 99, 107, 32, 48, 32, 48, 10]) (c := kt14) rfl (by decide) W
  have a15 : ∀ W : World, (Op.stringOp .add ⟨#[109, 97, 99, 104, 105, 110, 101, 32, 56, 32, 52, 32, 50, 10]⟩ ⟨#[112, 105, 99, 107, 32, 49, 48, 48, 32, 49, 10]⟩).run Tryz.prog W = .ok (.string (BT kt15)) W := fun W => kstr (a := [109, 97, 99, 104, 105, 110, 101, 32, 56, 32, 52, 32, 50, 10]) (b := [112, 105, 99, 107, 32, 49, 48, 48, 32, 49, 10]) (c := kt15) rfl (by decide) W
  have a16 : ∀ W : World, (Op.stringOp .add ⟨#[109, 97, 99, 104, 105, 110, 101, 32, 56, 32, 52, 32, 50, 10]⟩ ⟨#[112, 105, 99, 107, 32, 48, 32, 49, 48, 48, 49, 10]⟩).run Tryz.prog W = .ok (.string (BT kt16)) W := fun W => kstr (a := [109, 97, 99, 104, 105, 110, 101, 32, 56, 32, 52, 32, 50, 10]) (b := [112, 105, 99, 107, 32, 48, 32, 49, 48, 48, 49, 10]) (c := kt16) rfl (by decide) W
  have a17 : ∀ W : World, (Op.stringOp .add ⟨#[109, 97, 99, 104, 105, 110, 101, 32, 56, 32, 52, 32, 50, 10]⟩ ⟨#[112, 105, 99, 107, 32, 48, 10]⟩).run Tryz.prog W = .ok (.string (BT kt17)) W := fun W => kstr (a := [109, 97, 99, 104, 105, 110, 101, 32, 56, 32, 52, 32, 50, 10]) (b := [112, 105, 99, 107, 32, 48, 10]) (c := kt17) rfl (by decide) W
  have a18 : ∀ W : World, (Op.stringOp .add ⟨#[109, 97, 99, 104, 105, 110, 101, 32, 56, 32, 52, 32, 50, 10]⟩ ⟨#[112, 105, 99, 107, 32, 48, 32, 49, 32, 50, 10]⟩).run Tryz.prog W = .ok (.string (BT kt18)) W := fun W => kstr (a := [109, 97, 99, 104, 105, 110, 101, 32, 56, 32, 52, 32, 50, 10]) (b := [112, 105, 99, 107, 32, 48, 32, 49, 32, 50, 10]) (c := kt18) rfl (by decide) W
  have a19 : ∀ W : World, (Op.stringOp .add ⟨#[109, 97, 99, 104, 105, 110, 101, 32, 56, 32, 52, 32, 50, 10]⟩ ⟨#[114, 111, 117, 110, 100, 32, 48, 10]⟩).run Tryz.prog W = .ok (.string (BT kt19)) W := fun W => kstr (a := [109, 97, 99, 104, 105, 110, 101, 32, 56, 32, 52, 32, 50, 10]) (b := [114, 111, 117, 110, 100, 32, 48, 10]) (c := kt19) rfl (by decide) W
  have a20 : ∀ W : World, (Op.stringOp .add ⟨#[109, 97, 99, 104, 105, 110, 101, 32, 56, 32, 52, 32, 50, 10]⟩ ⟨#[115, 104, 111, 119, 32, 49, 10]⟩).run Tryz.prog W = .ok (.string (BT kt20)) W := fun W => kstr (a := [109, 97, 99, 104, 105, 110, 101, 32, 56, 32, 52, 32, 50, 10]) (b := [115, 104, 111, 119, 32, 49, 10]) (c := kt20) rfl (by decide) W
  have a21 : ∀ W : World, (Op.stringOp .add ⟨#[109, 97, 99, 104, 105, 110, 101, 32, 56, 32, 52, 32, 50, 10]⟩ ⟨#[115, 104, 111, 119, 10, 114, 111, 119, 115]⟩).run Tryz.prog W = .ok (.string (BT kt21)) W := fun W => kstr (a := [109, 97, 99, 104, 105, 110, 101, 32, 56, 32, 52, 32, 50, 10]) (b := [115, 104, 111, 119, 10, 114, 111, 119, 115]) (c := kt21) rfl (by decide) W
  have a22 : ∀ W : World, (Op.stringOp .add ⟨#[109, 97, 99, 104, 105, 110, 101, 32, 56, 32, 52, 32, 50, 10]⟩ ⟨#[115, 104, 111, 119, 10, 98, 121, 116, 101, 115, 32, 48, 48, 10]⟩).run Tryz.prog W = .ok (.string (BT kt22)) W := fun W => kstr (a := [109, 97, 99, 104, 105, 110, 101, 32, 56, 32, 52, 32, 50, 10]) (b := [115, 104, 111, 119, 10, 98, 121, 116, 101, 115, 32, 48, 48, 10]) (c := kt22) rfl (by decide) W
  have a23 : ∀ W : World, (Op.stringOp .add ⟨#[109, 97, 99, 104, 105, 110, 101, 32, 56, 32, 52, 32, 50, 10]⟩ ⟨#[98, 121, 116, 101, 115, 32, 48, 10]⟩).run Tryz.prog W = .ok (.string (BT kt23)) W := fun W => kstr (a := [109, 97, 99, 104, 105, 110, 101, 32, 56, 32, 52, 32, 50, 10]) (b := [98, 121, 116, 101, 115, 32, 48, 10]) (c := kt23) rfl (by decide) W
  have a24 : ∀ W : World, (Op.stringOp .add ⟨#[109, 97, 99, 104, 105, 110, 101, 32, 56, 32, 52, 32, 50, 10]⟩ ⟨#[98, 121, 116, 101, 115, 32, 48, 65, 10]⟩).run Tryz.prog W = .ok (.string (BT kt24)) W := fun W => kstr (a := [109, 97, 99, 104, 105, 110, 101, 32, 56, 32, 52, 32, 50, 10]) (b := [98, 121, 116, 101, 115, 32, 48, 65, 10]) (c := kt24) rfl (by decide) W
  have a25 : ∀ W : World, (Op.stringOp .add ⟨#[109, 97, 99, 104, 105, 110, 101, 32, 56, 32, 52, 32, 50, 10]⟩ ⟨#[98, 121, 116, 101, 115, 32, 10]⟩).run Tryz.prog W = .ok (.string (BT kt25)) W := fun W => kstr (a := [109, 97, 99, 104, 105, 110, 101, 32, 56, 32, 52, 32, 50, 10]) (b := [98, 121, 116, 101, 115, 32, 10]) (c := kt25) rfl (by decide) W
  have a26 : ∀ W : World, (Op.stringOp .add ⟨#[109, 97, 99, 104, 105, 110, 101, 32, 56, 32, 52, 32, 50, 10]⟩ ⟨#[98, 121, 116, 101, 115, 10]⟩).run Tryz.prog W = .ok (.string (BT kt26)) W := fun W => kstr (a := [109, 97, 99, 104, 105, 110, 101, 32, 56, 32, 52, 32, 50, 10]) (b := [98, 121, 116, 101, 115, 10]) (c := kt26) rfl (by decide) W
  have a27 : ∀ W : World, (Op.stringOp .add ⟨#[109, 97, 99, 104, 105, 110, 101, 32, 56, 32, 52, 32, 50, 10]⟩ ⟨#[98, 121, 116, 101, 115, 32, 48, 48, 10, 98, 121, 116, 101, 115, 32, 48, 48, 10]⟩).run Tryz.prog W = .ok (.string (BT kt27)) W := fun W => kstr (a := [109, 97, 99, 104, 105, 110, 101, 32, 56, 32, 52, 32, 50, 10]) (b := [98, 121, 116, 101, 115, 32, 48, 48, 10, 98, 121, 116, 101, 115, 32, 48, 48, 10]) (c := kt27) rfl (by decide) W
  have c1 : ∀ W : World, (Op.stringOp .add ⟨#[109, 97, 99, 104, 105, 110, 101, 32, 56, 32, 52, 32, 50, 10]⟩ ⟨#[98, 121, 116, 101, 115, 32]⟩).run Tryz.prog W = .ok (.string (BT P1)) W := fun W => kstr (a := kHead) (b := [98, 121, 116, 101, 115, 32]) hP1 (by simp only [q0, List.length_cons, List.length_nil]; omega) W
  have c2 : ∀ W : World, (Op.stringOp .add (BT P1) (BT (rep [48, 48] 25))).run Tryz.prog W = .ok (.string (BT P2)) W := fun W => kstr hP2 (by simp only [q2, l2, List.length_cons, List.length_nil]; omega) W
  have c3 : ∀ W : World, (Op.stringOp .add (BT P2) ⟨#[10]⟩).run Tryz.prog W = .ok (.string (BT kt28)) W := fun W => kstr (b := [10]) k2 (by simp only [q3, List.length_cons, List.length_nil]; omega) W
  have d1 : ∀ W : World, (Op.stringOp .add ⟨#[109, 97, 99, 104, 105, 110, 101, 32, 56, 32, 52, 32, 50, 10]⟩ (BT (rep kFull 2730))).run Tryz.prog W = .ok (.string (BT D1)) W := fun W => kstr (a := kHead) hD1 (by simp only [q0, l3, List.length_cons, List.length_nil]; omega) W
  have d2 : ∀ W : World, (Op.stringOp .add (BT D1) ⟨#[98, 121, 116, 101, 115, 32]⟩).run Tryz.prog W = .ok (.string (BT D2)) W := fun W => kstr (b := [98, 121, 116, 101, 115, 32]) hD2 (by simp only [q4, List.length_cons, List.length_nil]; omega) W
  have d3 : ∀ W : World, (Op.stringOp .add (BT D2) (BT (rep [48, 97] 17))).run Tryz.prog W = .ok (.string (BT D3)) W := fun W => kstr hD3 (by simp only [q5, l4, List.length_cons, List.length_nil]; omega) W
  have d4 : ∀ W : World, (Op.stringOp .add (BT D3) ⟨#[10]⟩).run Tryz.prog W = .ok (.string (BT (kBigA 2730))) W := fun W => kstr (b := [10]) k3 (by simp only [q6, List.length_cons, List.length_nil]; omega) W
  have e1 : ∀ W : World, (Op.stringOp .add ⟨#[109, 97, 99, 104, 105, 110, 101, 32, 56, 32, 52, 32, 50, 10]⟩ (BT (rep [114, 111, 119, 115, 10] (4096 + 1)))).run Tryz.prog W = .ok (.string (BT (kBigB (4096 + 1)))) W := fun W => kstr (a := kHead) k4 (by simp only [q0, l5, List.length_cons, List.length_nil]; omega) W
  have f1 : ∀ W : World, (Op.stringOp .add ⟨#[109, 97, 99, 104, 105, 110, 101, 32, 56, 32, 52, 32, 50, 10]⟩ (BT (rep [114, 111, 119, 115, 10] 4096))).run Tryz.prog W = .ok (.string (BT C1)) W := fun W => kstr (a := kHead) hC1 (by simp only [q0, l6, List.length_cons, List.length_nil]; omega) W
  have f2 : ∀ W : World, (Op.stringOp .add (BT C1) ⟨#[112, 105, 99, 107, 32, 48, 32, 48, 10]⟩).run Tryz.prog W = .ok (.string (BT (kBigC 4096))) W := fun W => kstr (b := [112, 105, 99, 107, 32, 48, 32, 48, 10]) k5 (by simp only [q7, List.length_cons, List.length_nil]; omega) W
  clear lF q0 q1 q2 q3 q4 q5 q6 q7 l1 l2 l3 l4 l5 l6 l7 k1 k2 k3 k4 k5 hF1 hP1 hP2 hD1 hD2 hD3 hC1
  go_wp2_with fail
  refine (rep_any (l := [48, 48]) (c := 25) (by decide) (by decide) _).mono ?_
  rintro e w7 ⟨rfl, t⟩
  have T7 := Lib.hid (T6.out.trans t)
  clear t
  go_wp2_with fail
  refine (rep_any (l := kFull) (c := 2730) (by decide) (by rw [kFull_len]; decide) _).mono ?_
  rintro e w8 ⟨rfl, t⟩
  have T8 := Lib.hid (T7.out.trans t)
  clear t
  go_wp2_with fail
  refine (rep_any (l := [48, 97]) (c := 17) (by decide) (by decide) _).mono ?_
  rintro e w9 ⟨rfl, t⟩
  have T9 := Lib.hid (T8.out.trans t)
  clear t
  go_wp2_with fail
  refine (rep_any (l := [114, 111, 119, 115, 10]) (c := (4096 + 1)) (by decide) (by decide) _).mono ?_
  rintro e w10 ⟨rfl, t⟩
  have T10 := Lib.hid (T9.out.trans t)
  clear t
  go_wp2_with fail
  refine (rep_any (l := [114, 111, 119, 115, 10]) (c := 4096) (by decide) (by decide) _).mono ?_
  rintro e w11 ⟨rfl, t⟩
  have T11 := Lib.hid (T10.out.trans t)
  clear t
  go_wp2_with fail
  generalize hW : World.alloc w11 _ = w12
  obtain ⟨bR, tR⟩ := alloc1 hW
  have T12 := Lib.hid (T11.out.trans tR)
  have BR := Lib.hid (kCells_blk _ (by kernel_rfl) bR)
  clear hW bR tR a12 a13 a14 a15 a16 a17 a18 a19 a20 a21 a22 a23 a24 a25 a26 a27 b1 b2 c1 c2 c3 d1 d2 d3 d4 e1 f1 f2
  go_loopw [133] (fun i wr => ∃ k : Nat, k ≤ 32 ∧ i = .int .i64 k ∧ Turn Nn w12 wr) (fun i _ => 32 - (intOf i).toNat)
  case atStart => exact ⟨0, by omega, rfl, Turn.refl Nn w12⟩
  case round =>
    obtain ⟨k, hk, rfl, tr⟩ := hrel
    have TR := Lib.hid tr
    clear tr
    by_cases hlt : k < 32
    · have hlti : ((k : Int) < 32) := by omega
      have hkr : k < kRows_.length := hlt
      obtain ⟨⟨t, c, n⟩, hr⟩ : ∃ r, kRows_[k] = r := ⟨_, rfl⟩
      have hm : (t, c, n) ∈ kRows_ := hr ▸ List.getElem_mem _
      obtain ⟨hp0, hl0, hc0⟩ := kRows_bad _ hm
      obtain ⟨x0, x1, x2⟩ := kCells_cell ((TR.out.block _ (heap_lt BR.out) (fun h => h)).trans BR.out) hkr
      rw [hr] at x0 x1 x2
      have HP0 := Lib.hid hp0
      have HL0 := Lib.hid hl0
      have HC0 := Lib.hid hc0
      clear hr hm hp0 hl0 hc0 hkr
      simp only at x0 x1 x2
      go_upto_region 11 with (fail)
      generalize hV : World.alloc wr _ = v1
      obtain ⟨bx, tx⟩ := alloc1 hV
      obtain ⟨y0, y1, y2⟩ := cells3k bx
      have V1 := Lib.hid (TR.out.trans tx)
      have BX := Lib.hid bx
      clear hV bx tx x0 x1 x2
      go_wp2_with fail
      refine (parse_big t (HL.out.turn (T12.out.trans V1.out)) (HMX.out.turn (T12.out.trans V1.out)) HL0.out).mono ?_
      rintro e v2 ⟨hp, t2⟩
      rw [HP0.out] at hp
      obtain ⟨f, rfl, hf, _⟩ := hp
      have V2 := Lib.hid (V1.out.trans t2)
      have BX2 := Lib.hid ((t2.block _ (heap_lt BX.out) (fun h => h)).trans BX.out)
      have BF := Lib.hid hf
      clear t2 hf y0 y1 y2
      simp only [sZero]
      go_upto_region 12 with (fail)
      generalize hV : World.alloc v2 _ = v3
      obtain ⟨bs, ts⟩ := alloc1 hV
      have V3 := Lib.hid (V2.out.trans ts)
      obtain ⟨y0, y1, y2⟩ := cells3k ((ts.block _ (heap_lt BX2.out) (fun h => h)).trans BX2.out)
      obtain ⟨z0, z1, z2, z3, z4, z5⟩ := cells6 bs
      have BF3 := Lib.hid ((ts.block _ (heap_lt BF.out) (fun h => h)).trans BF.out)
      have BS := Lib.hid bs
      clear hV bs ts z0 z1 z2 z3 z4 z5
      go_wp2_with fail
      refine (told_fault c n HC0.out (HE.out.turn (T12.out.trans V3.out)) BF3.out).mono ?_
      rintro e v4 ⟨rfl, t4⟩
      obtain ⟨z0, z1, z2, z3, z4, z5⟩ := cells6 ((t4.block _ (heap_lt BS.out) (fun h => h)).trans BS.out)
      have V4 := Lib.hid (V3.out.trans t4)
      clear t4 y0 y1 y2
      go_wp2_with fail
      refine (same_any (s := zeroS) (v1 := .slice none 0 0) (v2 := .slice none 0 0) (.inl ⟨rfl, _, _, rfl⟩) (.inl ⟨rfl, _, _, rfl⟩) (by decide)).mono ?_
      rintro e v5 ⟨rfl, t5⟩
      have V5 := Lib.hid (V4.out.trans t5)
      clear t5 z0 z1 z2 z3 z4 z5
      go_wp2_with fail
      exact ⟨⟨k + 1, by omega, rfl, V5.out⟩, by simp only [intOf]; omega⟩
    · have hek : k = 32 := by omega
      subst hek
      have hnlt : ¬ (((32 : Nat) : Int) < 32) := by omega
      have hnlt2 : ¬ ((32 : Int) < 32) := by omega
      have lF := kFull_len
      obtain ⟨D1, hD1⟩ : ∃ X, kHead ++ rep kFull 2730 = X := ⟨_, rfl⟩
      obtain ⟨D2, hD2⟩ : ∃ X, D1 ++ [98, 121, 116, 101, 115, 32] = X := ⟨_, rfl⟩
      obtain ⟨E3, hE3⟩ : ∃ X, D2 ++ rep [48, 97] 16 = X := ⟨_, rfl⟩
      obtain ⟨E4, hE4⟩ : ∃ X, E3 ++ [10] = X := ⟨_, rfl⟩
      have q0 : kHead.length = 14 := rfl
      have l3 : (rep kFull 2730).length = 150150 := by rw [rep_length, lF]
      have l4 : (rep [48, 97] 16).length = 32 := rep_length _ _
      have l5 : (rep [115, 104, 111, 119, 10] 4096).length = 20480 := rep_length _ _
      have q4 : D1.length = 150164 := by rw [← hD1, List.length_append, q0, l3]
      have q5 : D2.length = 150170 := by rw [← hD2, List.length_append, q4]; rfl
      have q6 : E3.length = 150202 := by rw [← hE3, List.length_append, q5, l4]
      have q7 : E4.length = 150203 := by rw [← hE4, List.length_append, q6]; rfl
      have k6 : E4 ++ rep [115, 104, 111, 119, 10] 4096 = kTopG 2730 4096 := by rw [← hE4, ← hE3, ← hD2, ← hD1]; unfold kTopG; rfl
      have q8 : (kTopG 2730 4096).length = 170683 := by rw [← k6, List.length_append, q7, l5]
      have e1 : ∀ W : World, (Op.stringOp .add ⟨#[109, 97, 99, 104, 105, 110, 101, 32, 56, 32, 52, 32, 50, 10]⟩ (BT (rep kFull 2730))).run Tryz.prog W = .ok (.string (BT D1)) W := fun W => kstr (a := kHead) hD1 (by simp only [q0, l3, List.length_cons, List.length_nil]; omega) W
      have e2 : ∀ W : World, (Op.stringOp .add (BT D1) ⟨#[98, 121, 116, 101, 115, 32]⟩).run Tryz.prog W = .ok (.string (BT D2)) W := fun W => kstr (b := [98, 121, 116, 101, 115, 32]) hD2 (by simp only [q4, List.length_cons, List.length_nil]; omega) W
      have e3 : ∀ W : World, (Op.stringOp .add (BT D2) (BT (rep [48, 97] 16))).run Tryz.prog W = .ok (.string (BT E3)) W := fun W => kstr hE3 (by simp only [q5, l4, List.length_cons, List.length_nil]; omega) W
      have e4 : ∀ W : World, (Op.stringOp .add (BT E3) ⟨#[10]⟩).run Tryz.prog W = .ok (.string (BT E4)) W := fun W => kstr (b := [10]) hE4 (by simp only [q6, List.length_cons, List.length_nil]; omega) W
      have e5 : ∀ W : World, (Op.stringOp .add (BT E4) (BT (rep [115, 104, 111, 119, 10] 4096))).run Tryz.prog W = .ok (.string (BT (kTopG 2730 4096))) W := fun W => kstr k6 (by simp only [q7, l5, List.length_cons, List.length_nil]; omega) W
      have Q8 := Lib.hid q8
      obtain ⟨S, hS⟩ : ∃ S, kMostG 2730 4096 = S := ⟨_, rfl⟩
      have hpr : printD S = (kTopG 2730 4096, 0) := by rw [← hS, kMost_valid (by decide) (by decide), kTop_text]
      have hs1 : S.turns.length = 4096 := by rw [← hS]; unfold kMostG; exact List.length_replicate
      have hs2 : S.mod.length = 65536 := by rw [← hS]; unfold kMostG; simp only [List.length_replicate]
      obtain ⟨hc1, hc2, hc3, hc4⟩ : S.chans = 8 ∧ S.actors = 4 ∧ S.cap = 2 ∧ S.twin = false := by rw [← hS]; exact ⟨rfl, rfl, rfl, rfl⟩
      have hbt : badT S.turns = false := by
        rw [← hS]; unfold kMostG badT
        exact List.any_eq_false.mpr (fun t ht => by rw [List.eq_of_mem_replicate ht]; decide)
      have HPR := Lib.hid hpr
      have HPP := Lib.hid (parse_print hpr)
      have HS1 := Lib.hid hs1
      have HS2 := Lib.hid hs2
      have HBT := Lib.hid hbt
      have HCC := Lib.hid (And.intro hc1 (And.intro hc2 (And.intro hc3 hc4)))
      clear lF hD1 hD2 hE3 hE4 q0 l3 l4 l5 q4 q5 q6 q7 q8 k6 hS hpr hs1 hs2 hbt hc1 hc2 hc3 hc4
      have R12 := Lib.hid (T12.out.trans TR.out)
      go_wp2_with fail
      refine (rep_any (l := kFull) (c := 2730) (by decide) (by rw [kFull_len]; decide) _).mono ?_
      rintro e v1 ⟨rfl, t⟩
      have V1 := Lib.hid (R12.out.trans t)
      clear t
      go_wp2_with fail
      refine (rep_any (l := [48, 97]) (c := 16) (by decide) (by decide) _).mono ?_
      rintro e v2 ⟨rfl, t⟩
      have V2 := Lib.hid (V1.out.trans t)
      clear t
      go_wp2_with fail
      refine (rep_any (l := [115, 104, 111, 119, 10]) (c := 4096) (by decide) (by decide) _).mono ?_
      rintro e v3 ⟨rfl, t⟩
      have V3 := Lib.hid (V2.out.trans t)
      clear t
      go_wp2_with fail
      refine (parse_big (kTopG 2730 4096) (HL.out.turn V3.out) (HMX.out.turn V3.out) (by rw [Q8.out]; decide)).mono ?_
      rintro e v4 ⟨hp, t4⟩
      rw [HPP.out] at hp
      obtain ⟨v', rfl, ho⟩ := hp
      obtain ⟨pv, cv, rfl⟩ := (TSl.own ho).shape
      have S4 := Lib.hid (TSl.own ho)
      have V4 := Lib.hid (V3.out.trans t4)
      clear ho t4 e1 e2 e3 e4 e5
      obtain ⟨M, hM⟩ : ∃ M, BT S.mod = M := ⟨_, rfl⟩
      have hMs : M.size = 65536 := by rw [← hM, BT_sizeK, HS2.out]
      have hMx : ∀ W : World, (Op.stringOp .add M ⟨#[120]⟩).run Tryz.prog W = .ok (.string (BT (S.mod ++ [120]))) W := fun W => by
        rw [← hM]
        exact kstr (b := [120]) rfl (by rw [HS2.out]; decide) W
      have HM := Lib.hid hM
      obtain ⟨hc1, hc2, hc3, hc4⟩ := HCC.out
      simp only [scriptV]
      rw [hc1, hc2, hc3, hc4, hM, HS1.out]
      clear hM hc1 hc2 hc3 hc4
      go_upto_region 16 with (fail)
      generalize hV : World.alloc v4 _ = v5
      obtain ⟨b5, t5⟩ := alloc1 hV
      have B5 := Lib.hid b5
      have V5 := Lib.hid (V4.out.trans t5)
      have S5 := Lib.hid (S4.out.turn t5)
      obtain ⟨g0, g1, g2, g3, g4, g5⟩ := cells6 b5
      clear hV b5 t5
      go_wp2_with fail
      obtain ⟨hc1, hc2, hc3, hc4⟩ := HCC.out
      have PR := print_any (s := S) (HL.out.turn V5.out) S5.out (by rw [HS1.out]; decide) (by rw [HS2.out]; decide)
      simp only [scriptA] at PR
      rw [hc1, hc2, hc3, hc4, HM.out, HS1.out] at PR
      refine PR.mono ?_
      rintro e v6 ⟨rfl, t6⟩
      rw [HPR.out]
      have V6 := Lib.hid (V5.out.trans t6)
      have S6 := Lib.hid (S5.out.turn t6)
      have B6 := Lib.hid ((t6.block _ (heap_lt B5.out) (fun h => h)).trans B5.out)
      have L56 := Lib.hid (Nat.lt_of_lt_of_le (heap_lt B5.out) t6.size)
      clear t6 PR g0 g1 g2 g3 g4 g5 hc1 hc2 hc3 hc4
      obtain ⟨X, hX⟩ : ∃ X, BT (kTopG 2730 4096) = X := ⟨_, rfl⟩
      have hXs : X.size = 170683 := by rw [← hX, BT_sizeK, Q8.out]
      simp only
      rw [hX]
      clear hX
      have hFs : (BT kFull).size = 55 := by rw [BT_sizeK, kFull_len]
      go_upto_region 22 with (fail)
      generalize hV : World.alloc v6 _ = v7
      obtain ⟨b7, t7⟩ := alloc1 hV
      have C7 := Lib.hid b7
      have B7 := Lib.hid ((t7.block _ (heap_lt B6.out) (fun h => h)).trans B6.out)
      have S7 := Lib.hid (S6.out.turn t7)
      have V7 := Lib.hid (V6.out.trans t7)
      clear hV b7 t7
      obtain ⟨g0, g1, g2, g3, g4, g5⟩ := cells6 B7.out
      have fz := frozen_blk (o := 4) B7.out
      clear hXs hMs hFs hnlt hnlt2 hlt hk
      go_upto_region 23 with (fail)
      generalize hV : World.setCell v7 _ _ = v8
      have B8 : Hid (v8.heap[v4.heap.size]? = some (.cells #[.int .i64 8, .int .i64 4, .int .i64 2, .bool false, .string (BT (S.mod ++ [120])), .slice pv 4096 cv] 26)) := Lib.hid (by rw [← hV]; exact heap_setCell_at B7.out 4 _)
      have C8 : Hid (v8.heap[v6.heap.size]? = some (.cells #[.int .i64 1, .int .i64 1, .int .i64 1] 23)) := Lib.hid (by rw [← hV]; exact blk_setK C7.out (by have := L56.out; omega))
      have S8 : Hid (TSl v8 (.slice pv S.turns.length cv) S.turns) := Lib.hid (by rw [← hV]; exact S7.out.setK S4.out (fun e => by have := HS1.out; rw [e] at this; cases this))
      have V8 : Hid (Turn Nn w v8) := Lib.hid (by rw [← hV]; exact V7.out.setCell (.inr V4.out.size) _)
      clear hV g0 g1 g2 g3 g4 g5 fz hMx
      obtain ⟨g0, g1, g2, g3, g4, g5⟩ := cells6 B8.out
      go_wp2_with fail
      clear g0 g1 g2 g3 g4 g5
      obtain ⟨hc1, hc2, hc3, hc4⟩ := HCC.out
      have PR := print_any (s := ⟨S.chans, S.actors, S.cap, S.twin, S.mod ++ [120], S.turns⟩) (HL.out.turn V8.out) S8.out (by simp only [HS1.out]; decide) (by simp only [List.length_append, HS2.out]; decide)
      have hp4 : printD ⟨S.chans, S.actors, S.cap, S.twin, S.mod ++ [120], S.turns⟩ = ([], 4) := by
        unfold printD
        rw [if_neg (noBad (s := ⟨S.chans, S.actors, S.cap, S.twin, S.mod ++ [120], S.turns⟩) (by simp only [hc1, hc2, hc3]; decide) HBT.out), if_pos (.inl (by simp only [List.length_append, HS2.out]; decide))]
      unfold PrintPost at PR
      rw [hp4] at PR
      simp only [scriptA] at PR
      rw [hc1, hc2, hc3, hc4, HS1.out] at PR
      clear hp4 hc1 hc2 hc3 hc4
      refine PR.mono ?_
      rintro e v9 ⟨rfl, t9⟩
      have V9 := Lib.hid (V8.out.trans t9)
      have C9 := Lib.hid ((t9.block _ (heap_lt C8.out) (fun h => h)).trans C8.out)
      clear t9 PR
      go_wp2_with fail
      have PR := print_any (s := zeroS) (v := .slice none 0 0) (HL.out.turn V9.out) (.inl ⟨rfl, _, _, rfl⟩) (by decide) (by decide)
      unfold PrintPost at PR
      rw [kz_no] at PR
      refine PR.mono ?_
      rintro e v10 ⟨rfl, t10⟩
      have V10 := Lib.hid (V9.out.trans t10)
      have C10 := Lib.hid ((t10.block _ (heap_lt C9.out) (fun h => h)).trans C9.out)
      clear t10 PR
      obtain ⟨h0, h1, h2⟩ := cells3k C10.out
      go_wp2_with fail
      clear h0 h1 h2
      generalize hV : World.alloc v10 _ = v11
      obtain ⟨ba, ta⟩ := alloc1 hV
      have PR := print_any (s := kOne 2 0 1) (HL.out.turn (V10.out.trans ta)) (one_sl ba) (by decide) (by decide)
      unfold PrintPost at PR
      rw [kOne_no0] at PR
      have C11 := Lib.hid ((ta.block _ (heap_lt C10.out) (fun h => h)).trans C10.out)
      have V11 := Lib.hid (V10.out.trans ta)
      clear hV ba ta
      refine PR.mono ?_
      rintro e v12 ⟨rfl, tb⟩
      have V12 := Lib.hid (V11.out.trans tb)
      have C12 := Lib.hid ((tb.block _ (heap_lt C11.out) (fun h => h)).trans C11.out)
      clear tb PR
      obtain ⟨h0, h1, h2⟩ := cells3k C12.out
      go_wp2_with fail
      clear h0 h1 h2
      generalize hV : World.alloc v12 _ = v13
      obtain ⟨ba, ta⟩ := alloc1 hV
      have PR := print_any (s := kOne 4 0 0) (HL.out.turn (V12.out.trans ta)) (one_sl ba) (by decide) (by decide)
      unfold PrintPost at PR
      rw [kOne_no1] at PR
      have C13 := Lib.hid ((ta.block _ (heap_lt C12.out) (fun h => h)).trans C12.out)
      have V13 := Lib.hid (V12.out.trans ta)
      clear hV ba ta
      refine PR.mono ?_
      rintro e v14 ⟨rfl, tb⟩
      have V14 := Lib.hid (V13.out.trans tb)
      have C14 := Lib.hid ((tb.block _ (heap_lt C13.out) (fun h => h)).trans C13.out)
      clear tb PR
      obtain ⟨h0, h1, h2⟩ := cells3k C14.out
      go_wp2_with fail
      clear h0 h1 h2
      generalize hV : World.alloc v14 _ = v15
      obtain ⟨ba, ta⟩ := alloc1 hV
      have PR := print_any (s := kOne 1 1 1) (HL.out.turn (V14.out.trans ta)) (one_sl ba) (by decide) (by decide)
      unfold PrintPost at PR
      rw [kOne_no2] at PR
      have C15 := Lib.hid ((ta.block _ (heap_lt C14.out) (fun h => h)).trans C14.out)
      have V15 := Lib.hid (V14.out.trans ta)
      clear hV ba ta
      refine PR.mono ?_
      rintro e v16 ⟨rfl, tb⟩
      have V16 := Lib.hid (V15.out.trans tb)
      have C16 := Lib.hid ((tb.block _ (heap_lt C15.out) (fun h => h)).trans C15.out)
      clear tb PR
      go_upto_region 28 with (fail)
      have HC16 := Lib.hid (kCS C16.out)
      refine held_begin (CS v6.heap.size) (by kernel_rfl) ?_
      generalize hwd : World.drew v16 = vd
      have VD : Hid (Turn Nn w vd) := Lib.hid (by rw [← hwd]; exact V16.out.drew)
      have CD : Hid (vd.heap[v6.heap.size]? = some (.cells #[.int .i64 1, .int .i64 1, .int .i64 1] 23)) := Lib.hid (by rw [← hwd]; exact C16.out)
      have HD := Lib.hid (kCS CD.out)
      clear hwd
      refine held_take 0 ?_ rfl (by kernel_rfl) (by kernel_rfl) (by kernel_rfl) (fun _ _ _ h => h) (Or.inl ⟨by kernel_rfl, ?_⟩) HD.out ?_
      rotate_left 1
      · intro u hu; obtain ⟨y0, y1, y2⟩ := hu; go_simp; first | done | with_reducible rfl
      try simp only [Act.put, List.getElem_toArray, List.getElem_cons_succ, List.getElem_cons_zero, List.setIfInBounds_toArray, List.set_cons_succ, List.set_cons_zero]
      obtain ⟨vm, hvm⟩ : ∃ vm, vd.alloc (.cells kMade 60) = vm := ⟨_, rfl⟩
      have mk := kMake vd
      rw [hvm] at mk
      obtain ⟨bm, tm⟩ := alloc1 hvm
      have VM := Lib.hid (VD.out.trans tm)
      have SM := Lib.hid (kMade_sl bm)
      have CM := Lib.hid ((tm.block _ (heap_lt CD.out) (fun h => h)).trans CD.out)
      have HM2 := Lib.hid (kCS CM.out)
      clear hvm bm tm
      refine held_one 1 (by kernel_rfl) rfl (by kernel_rfl) (fun K hK => ?_)
      go_simp
      refine hK _ _ HM2.out ?_
      clear hK K
      try simp only [Act.put, List.getElem_toArray, List.getElem_cons_succ, List.getElem_cons_zero, List.setIfInBounds_toArray, List.set_cons_succ, List.set_cons_zero]
      clear mk
      refine held_one 2 (by kernel_rfl) rfl (by kernel_rfl) (fun K hK => ?_)
      go_simp
      refine hK _ _ HM2.out ?_
      clear hK K
      try simp only [Act.put, List.getElem_toArray, List.getElem_cons_succ, List.getElem_cons_zero, List.setIfInBounds_toArray, List.set_cons_succ, List.set_cons_zero]
      have PR := print_any (s := kMany) (HL.out.turn VM.out) SM.out (by decide) (by decide)
      unfold PrintPost at PR
      rw [kMany_no] at PR
      refine held_one 3 (by kernel_rfl) rfl (by kernel_rfl) (fun K hK => ?_)
      go_simp
      refine PR.mono ?_
      rintro e vn ⟨rfl, tn⟩
      have VN := Lib.hid (VM.out.trans tn)
      have CN := Lib.hid ((tn.block _ (heap_lt CM.out) (fun h => h)).trans CM.out)
      clear tn PR
      refine hK _ _ (kCS CN.out) ?_
      clear hK K
      try simp only [Act.put, List.getElem_toArray, List.getElem_cons_succ, List.getElem_cons_zero, List.setIfInBounds_toArray, List.set_cons_succ, List.set_cons_zero]
      refine held_one 4 (by kernel_rfl) rfl (by kernel_rfl) (fun K hK => ?_)
      go_simp
      refine hK _ _ (kCS CN.out) ?_
      clear hK K
      try simp only [Act.put, List.getElem_toArray, List.getElem_cons_succ, List.getElem_cons_zero, List.setIfInBounds_toArray, List.set_cons_succ, List.set_cons_zero]
      refine held_take 5 ?_ rfl (by kernel_rfl) (by kernel_rfl) (by kernel_rfl) (fun _ _ _ h => h) (Or.inl ⟨by kernel_rfl, ?_⟩) (kCS CN.out) ?_
      rotate_left 1
      · intro u hu; obtain ⟨y0, y1, y2⟩ := hu; go_simp; first | done | with_reducible rfl
      try simp only [Act.put, List.getElem_toArray, List.getElem_cons_succ, List.getElem_cons_zero, List.setIfInBounds_toArray, List.set_cons_succ, List.set_cons_zero]
      refine held_take 6 ?_ rfl (by kernel_rfl) (by kernel_rfl) (by kernel_rfl) (fun _ _ _ h => h) (Or.inl ⟨by kernel_rfl, ?_⟩) (kCS CN.out) ?_
      rotate_left 1
      · intro u hu; obtain ⟨y0, y1, y2⟩ := hu; go_simp; first | done | with_reducible rfl
      try simp only [Act.put, List.getElem_toArray, List.getElem_cons_succ, List.getElem_cons_zero, List.setIfInBounds_toArray, List.set_cons_succ, List.set_cons_zero]
      refine held_one 7 (by kernel_rfl) rfl (by kernel_rfl) (fun K hK => ?_)
      go_simp
      refine hK _ _ (kCS CN.out) ?_
      clear hK K
      try simp only [Act.put, List.getElem_toArray, List.getElem_cons_succ, List.getElem_cons_zero, List.setIfInBounds_toArray, List.set_cons_succ, List.set_cons_zero]
      refine held_one 8 (by kernel_rfl) rfl (by kernel_rfl) (fun K hK => ?_)
      go_simp
      refine hK _ _ (kCS CN.out) ?_
      clear hK K
      try simp only [Act.put, List.getElem_toArray, List.getElem_cons_succ, List.getElem_cons_zero, List.setIfInBounds_toArray, List.set_cons_succ, List.set_cons_zero]
      refine wpAnyH_done (by kernel_rfl) ?_ _
      go_upto_region 29 with (fail)
      have HC20 := Lib.hid (kCS CN.out)
      have hFs : (BT kFull).size = 55 := by rw [BT_sizeK, kFull_len]
      have hFx : (BT kFull).extract 6 31 = BT kMod := by kernel_rfl
      refine held_begin (CS v6.heap.size) (by kernel_rfl) ?_
      generalize hwd : World.drew vn = vd2
      have VD2 : Hid (Turn Nn w vd2) := Lib.hid (by rw [← hwd]; exact VN.out.drew)
      have CD2 : Hid (vd2.heap[v6.heap.size]? = some (.cells #[.int .i64 1, .int .i64 1, .int .i64 1] 23)) := Lib.hid (by rw [← hwd]; exact CN.out)
      have HD2 := Lib.hid (kCS CD2.out)
      clear hwd
      refine held_take 0 ?_ rfl (by kernel_rfl) (by kernel_rfl) (by kernel_rfl) (fun _ _ _ h => h) (Or.inl ⟨by kernel_rfl, ?_⟩) HD2.out ?_
      rotate_left 1
      · intro u hu; obtain ⟨y0, y1, y2⟩ := hu; go_simp; first | done | with_reducible rfl
      try simp only [Act.put, List.getElem_toArray, List.getElem_cons_succ, List.getElem_cons_zero, List.setIfInBounds_toArray, List.set_cons_succ, List.set_cons_zero]
      refine held_take 1 ?_ rfl (by kernel_rfl) (by kernel_rfl) (by kernel_rfl) (fun _ _ _ h => h) (Or.inl ⟨by kernel_rfl, ?_⟩) HD2.out ?_
      rotate_left 1
      · intro u hu; obtain ⟨y0, y1, y2⟩ := hu; go_simp; first | done | with_reducible rfl
      try simp only [Act.put, List.getElem_toArray, List.getElem_cons_succ, List.getElem_cons_zero, List.setIfInBounds_toArray, List.set_cons_succ, List.set_cons_zero]
      refine held_take 2 ?_ rfl (by kernel_rfl) (by kernel_rfl) (by kernel_rfl) (fun _ _ _ h => h) (Or.inl ⟨by kernel_rfl, ?_⟩) HD2.out ?_
      rotate_left 1
      · intro u hu; obtain ⟨y0, y1, y2⟩ := hu; go_simp; first | done | with_reducible rfl
      try simp only [Act.put, List.getElem_toArray, List.getElem_cons_succ, List.getElem_cons_zero, List.setIfInBounds_toArray, List.set_cons_succ, List.set_cons_zero]
      refine held_take 3 ?_ rfl (by kernel_rfl) (by kernel_rfl) (by kernel_rfl) (fun _ _ _ h => h) (Or.inl ⟨by kernel_rfl, ?_⟩) HD2.out ?_
      rotate_left 1
      · intro u hu; obtain ⟨y0, y1, y2⟩ := hu; go_simp; first | done | with_reducible rfl
      try simp only [Act.put, List.getElem_toArray, List.getElem_cons_succ, List.getElem_cons_zero, List.setIfInBounds_toArray, List.set_cons_succ, List.set_cons_zero]
      try rw [hFx]
      clear hFs hFx
      obtain ⟨bq, tq⟩ := alloc1 (w := vd2) (a := .cells #[.int .i64 0, .int .i64 99, .int .i64 1000] 60) rfl
      have BQ := Lib.hid bq
      have VQ := Lib.hid (VD2.out.trans tq)
      have CQ := Lib.hid ((tq.block _ (heap_lt CD2.out) (fun h => h)).trans CD2.out)
      have HQ := Lib.hid (kCS CQ.out)
      clear bq tq
      refine held_one 4 (by kernel_rfl) rfl (by kernel_rfl) (fun K hK => ?_)
      go_simp
      refine hK _ _ HQ.out ?_
      clear hK K
      try simp only [Act.put, List.getElem_toArray, List.getElem_cons_succ, List.getElem_cons_zero, List.setIfInBounds_toArray, List.set_cons_succ, List.set_cons_zero]
      refine held_one 5 (by kernel_rfl) rfl (by kernel_rfl) (fun K hK => ?_)
      go_simp
      refine hK _ _ HQ.out ?_
      clear hK K
      try simp only [Act.put, List.getElem_toArray, List.getElem_cons_succ, List.getElem_cons_zero, List.setIfInBounds_toArray, List.set_cons_succ, List.set_cons_zero]
      have PR := print_any (s := kS9) (HL.out.turn VQ.out) (one_sl BQ.out) (by decide) (by decide)
      unfold PrintPost at PR
      rw [kS9_yes] at PR
      refine held_one 6 (by kernel_rfl) rfl (by kernel_rfl) (fun K hK => ?_)
      go_simp
      refine PR.mono ?_
      rintro e vp ⟨rfl, tp⟩
      have V20 := Lib.hid (VQ.out.trans tp)
      have CP := Lib.hid ((tp.block _ (heap_lt CQ.out) (fun h => h)).trans CQ.out)
      clear tp PR
      refine hK _ _ (kCS CP.out) ?_
      clear hK K
      try simp only [Act.put, List.getElem_toArray, List.getElem_cons_succ, List.getElem_cons_zero, List.setIfInBounds_toArray, List.set_cons_succ, List.set_cons_zero]
      refine held_one 7 (by kernel_rfl) rfl (by kernel_rfl) (fun K hK => ?_)
      go_simp
      refine hK _ _ (kCS CP.out) ?_
      clear hK K
      try simp only [Act.put, List.getElem_toArray, List.getElem_cons_succ, List.getElem_cons_zero, List.setIfInBounds_toArray, List.set_cons_succ, List.set_cons_zero]
      refine held_take 8 ?_ rfl (by kernel_rfl) (by kernel_rfl) (by kernel_rfl) (fun _ _ _ h => h) (Or.inl ⟨by kernel_rfl, ?_⟩) (kCS CP.out) ?_
      rotate_left 1
      · intro u hu; obtain ⟨y0, y1, y2⟩ := hu; go_simp; first | done | with_reducible rfl
      try simp only [Act.put, List.getElem_toArray, List.getElem_cons_succ, List.getElem_cons_zero, List.setIfInBounds_toArray, List.set_cons_succ, List.set_cons_zero]
      refine held_take 9 ?_ rfl (by kernel_rfl) (by kernel_rfl) (by kernel_rfl) (fun _ _ _ h => h) (Or.inl ⟨by kernel_rfl, ?_⟩) (kCS CP.out) ?_
      rotate_left 1
      · intro u hu; obtain ⟨y0, y1, y2⟩ := hu; go_simp; first | done | with_reducible rfl
      try simp only [Act.put, List.getElem_toArray, List.getElem_cons_succ, List.getElem_cons_zero, List.setIfInBounds_toArray, List.set_cons_succ, List.set_cons_zero]
      refine held_one 10 (by kernel_rfl) rfl (by kernel_rfl) (fun K hK => ?_)
      go_simp
      refine hK _ _ (kCS CP.out) ?_
      clear hK K
      try simp only [Act.put, List.getElem_toArray, List.getElem_cons_succ, List.getElem_cons_zero, List.setIfInBounds_toArray, List.set_cons_succ, List.set_cons_zero]
      refine held_one 11 (by kernel_rfl) rfl (by kernel_rfl) (fun K hK => ?_)
      go_simp
      refine hK _ _ (kCS CP.out) ?_
      clear hK K
      try simp only [Act.put, List.getElem_toArray, List.getElem_cons_succ, List.getElem_cons_zero, List.setIfInBounds_toArray, List.set_cons_succ, List.set_cons_zero]
      refine wpAnyH_done (by kernel_rfl) ?_ _
      go_wp2_with fail
      refine (rep_any (l := [51, 48, 54, 49]) (c := 12) (by decide) (by decide) _).mono ?_
      rintro e v21 ⟨rfl, t⟩
      have V21 := Lib.hid (V20.out.trans t)
      clear t
      have hz1 : ∀ W : World, (Op.stringOp .add ⟨#[109, 97, 99, 104, 105, 110, 101, 32, 49, 32, 49, 32, 49, 32, 116, 119, 105, 110, 10, 98, 121, 116, 101, 115, 32]⟩ (BT (rep [51, 48, 54, 49] 12))).run Tryz.prog W = .ok (.string (BT kZ1)) W := fun W => kstr (a := [109, 97, 99, 104, 105, 110, 101, 32, 49, 32, 49, 32, 49, 32, 116, 119, 105, 110, 10, 98, 121, 116, 101, 115, 32]) rfl (by decide) W
      have hz2 : ∀ W : World, (Op.stringOp .add (BT kZ1) ⟨#[10, 98, 121, 116, 101, 115, 32, 51, 48, 10, 112, 105, 99, 107, 32, 57, 57, 32, 49, 48, 48, 48, 10]⟩).run Tryz.prog W = .ok (.string (BT kText9)) W := fun W => kstr (b := [10, 98, 121, 116, 101, 115, 32, 51, 48, 10, 112, 105, 99, 107, 32, 57, 57, 32, 49, 48, 48, 48, 10]) rfl (by decide) W
      go_wp2_with fail
      go_ret
      exact ⟨rfl, V21.out⟩
end Go.Proofs.YtjnllclpdllceaaGreatDoor
