/- The program's walks: whatever row; the row of an event; events that are the same. The program's walks: the row of an event; events that are the same; a list of words joined. The program's walks: how Text is left. The program's walks: Text, what it is made of. -/
import Derived.Test.YtpbjblbeepbklaaGreatDoorKj
import Derived.Test.YtpbjblbeepbklaaGreatDoorKk
import Derived.Test.YtpbjblbeepbklaaGreatDoorKl
import Derived.Laws.StructEq
import Derived.Test.YtpbjblbeepbklaaGreatDoorKe
namespace Go.Proofs.YtpbjblbeepbklaaGreatDoor
set_option linter.unusedSimpArgs false
set_option linter.unusedVariables false
section
open Go.RowKit Go.Shelf

theorem tell_any {r : RowD} {E : EventD} (hr : r ∈ rowsD) (hs : ESmall E) {B : Nat} {v : Value} {w : World} (hE : EvAt w B E) (hv : FSl w v r.flds) (hw : Laid w) :
    Calls Tryz.prog 45 #[.agg (rowA r v), .pointer (some ⟨B, 0, none⟩)] w (TellR w r E) := by
  rcases rows_kinds r hr with ⟨hf, _⟩ | ⟨hf, _⟩ | ⟨hf, _⟩ | ⟨hf, _⟩ | ⟨hf, _⟩ | ⟨_, ⟨hf, _⟩ | ⟨hf, _⟩ | ⟨hf, _⟩⟩
  · exact tell_nil hf hs hE hv hw
  · exact tell_one_word hf hs hE hv hw
  · exact tell_one_made hf hs hE hv hw
  · exact tell_one_child hf hs hE hv hw
  · exact tell_one_place hf hs hE hv hw
  · exact tell_two_word hf hs hE hv hw
  · exact tell_two_label hf hs hE hv hw
  · exact tell_two_handed hf hs hE hv hw
theorem row_read_any {r : RowD} (hr : r ∈ rowsD) {L : List Bs} {v : Value} {w : World} {lb cap : Nat} (hL : WAt w lb L) (hn : L.length = sizeR r) (hx : ∀ x ∈ L, x.length ≤ 4000000) (hcap : L.length ≤ cap) (hv : FSl w v r.flds) (hw : Laid w) :
    Calls Tryz.prog 46 #[.agg (rowA r v), .slice (some ⟨lb, 0, none⟩) L.length cap] w (ReadX w (readR r L)) := by
  obtain ⟨_, _, _, _, _, _, hsh⟩ := rows_shape r hr
  have h3 : r.flds = [] → L.length = 3 := fun h => by
    rcases hsh with ⟨_, hm⟩ | ⟨f, hf, _⟩ | ⟨g, hf, _⟩
    · rw [hn]; unfold sizeR; rw [h, hm]; rfl
    · rw [h] at hf; cases hf
    · rw [h] at hf; cases hf
  have h4 : ∀ f, r.flds = [f] → L.length = 4 := fun f h => by
    rcases hsh with ⟨hf, _⟩ | ⟨f, _, hm⟩ | ⟨g, hf, _⟩
    · rw [h] at hf; cases hf
    · rw [hn]; unfold sizeR; rw [h, hm]; rfl
    · rw [h] at hf; cases hf
  have h6 : ∀ g, r.flds = [.place, g] → L.length = 6 := fun g h => by
    rcases hsh with ⟨hf, _⟩ | ⟨f, hf, _⟩ | ⟨g, _, hm, _⟩
    · rw [h] at hf; cases hf
    · rw [h] at hf; cases hf
    · rw [hn]; unfold sizeR; rw [h, Nat.min_eq_right (by omega)]; rfl
  rcases rows_kinds r hr with ⟨hf, _⟩ | ⟨hf, _⟩ | ⟨hf, _⟩ | ⟨hf, _⟩ | ⟨hf, _⟩ | ⟨_, ⟨hf, _⟩ | ⟨hf, _⟩ | ⟨hf, _⟩⟩
  · have hl := h3 hf
    match L, hl with
    | [x, y, z], _ => exact row_read_nil hf hL (hx x (by simp)) (hx y (by simp)) hcap hv hw
  · have hl := h4 _ hf
    match L, hl with
    | [x, y, z, t], _ => exact row_read_one_word hf hL (hx x (by simp)) (hx y (by simp)) (hx t (by simp)) hcap hv hw
  · have hl := h4 _ hf
    match L, hl with
    | [x, y, z, t], _ => exact row_read_one_made hf hL (hx x (by simp)) (hx y (by simp)) (hx t (by simp)) hcap hv hw
  · have hl := h4 _ hf
    match L, hl with
    | [x, y, z, t], _ => exact row_read_one_child hf hL (hx x (by simp)) (hx y (by simp)) (hx t (by simp)) hcap hv hw
  · have hl := h4 _ hf
    match L, hl with
    | [x, y, z, t], _ => exact row_read_one_place hf hL (hx x (by simp)) (hx y (by simp)) (hx t (by simp)) hcap hv hw
  · have hl := h6 _ hf
    match L, hl with
    | [x, y, z, t, m, u], _ => exact row_read_two_word hf hL (hx x (by simp)) (hx y (by simp)) (hx t (by simp)) (hx u (by simp)) hcap hv hw
  · have hl := h6 _ hf
    match L, hl with
    | [x, y, z, t, m, u], _ => exact row_read_two_label hf hL (hx x (by simp)) (hx y (by simp)) (hx t (by simp)) (hx u (by simp)) hcap hv hw
  · have hl := h6 _ hf
    match L, hl with
    | [x, y, z, t, m, u], _ => exact row_read_two_handed hf hL (hx x (by simp)) (hx y (by simp)) (hx t (by simp)) (hx u (by simp)) hcap hv hw
end
section
open Go.RowKit Go.Shelf

theorem ev_same {E F : EventD} : (E = F) ↔ (E.kind = F.kind ∧ E.slot = F.slot ∧ E.actor = F.actor ∧ E.pc = F.pc ∧ E.chan = F.chan ∧ E.side = F.side ∧ E.tag = F.tag ∧ E.word = F.word ∧ E.name = F.name) := by
  cases E; cases F; simp
set_option maxHeartbeats 4000000 in
theorem ev_eql (E F : EventD) (W : World) : (binOp BinOp.eql 34 (.agg (evC E)) (.agg (evC F))).run Tryz.prog W = .ok (.bool (decide (E = F))) W := by
  unfold evC
  go_simp
  have hd : decide (E = F) = decide (E.kind = F.kind ∧ E.slot = F.slot ∧ E.actor = F.actor ∧ E.pc = F.pc ∧ E.chan = F.chan ∧ E.side = F.side ∧ E.tag = F.tag ∧ E.word = F.word ∧ E.name = F.name) := decide_eq_decide.2 ev_same
  rw [hd]
  simp only [BT_toList]
  repeat' split
  all_goals simp_all
theorem RowsAt.row5 {w : World} {R i : Nat} {r : RowD} (h : RowsAt w R) (hi : rowsD[i]? = some r) :
    ∃ v, FSl w v r.flds ∧ w.cell? ⟨R, i * 5, none⟩ = some (.int .i64 r.kind) ∧ w.cell? ⟨R, i * 5 + 1, none⟩ = some (.int .i64 r.tag) ∧ w.cell? ⟨R, i * 5 + 2, none⟩ = some (.string (BT r.word)) ∧ w.cell? ⟨R, i * 5 + 3, none⟩ = some (.string (BT r.msg)) ∧ w.cell? ⟨R, i * 5 + 4, none⟩ = some v := by
  rw [Nat.mul_comm i 5]; exact h.row hi
/-- Which row an event has. -/
def RowIx (E : EventD) (z : Int) : Prop := (∃ (i : Nat) (r : RowD), z = i ∧ rowsD[i]? = some r ∧ r.kind = E.kind ∧ r.tag = E.tag) ∨ (z = -1 ∧ ∀ r ∈ rowsD, ¬ (r.kind = E.kind ∧ r.tag = E.tag))
theorem pick_any {r : RowD} {E : EventD} {B : Nat} {v : Value} {w : World} (hE : EvAt w B E) :
    Calls Tryz.prog 44 #[.agg (rowA r v), .pointer (some ⟨B, 0, none⟩)] w fun e w' => e = .returned (.bool (decide (r.kind = E.kind ∧ r.tag = E.tag))) ∧ Turn Nn w w' := by
  obtain ⟨w0, hw0⟩ : ∃ w0, w.alloc (.cells (rowA r v) 70) = w0 := ⟨_, rfl⟩
  obtain ⟨b0, t0⟩ := alloc1 hw0
  obtain ⟨x0, x1, x2, x3, x4⟩ := rowCells (show RowBox w0 w.heap.size r v from b0)
  obtain ⟨y0, y1, y2, y3, y4, y5, y6, y7, y8⟩ := evCells (hE.turn t0)
  have HT := Lib.hid t0
  have hw0' : w.alloc (.cells #[.int .i64 r.kind, .int .i64 r.tag, .string (BT r.word), .string (BT r.msg), v] 70) = w0 := hw0
  unfold rowA
  obtain ⟨k, hk⟩ : ∃ k, E.kind = k := ⟨_, rfl⟩
  obtain ⟨t, ht⟩ : ∃ t, E.tag = t := ⟨_, rfl⟩
  rw [hk] at y0 ⊢
  rw [ht] at y6 ⊢
  clear hw0 b0 t0 y1 y2 y3 y4 y5 y7 y8 x2 x3 x4 hk ht hE
  by_cases h1 : r.kind = k
  · by_cases h2 : r.tag = t
    · rw [decide_eq_true ⟨h1, h2⟩]
      subst h1
      subst h2
      go_enter Tryz.func44, Tryz.ntmps44
      go_wp2_with fail
      go_ret
      exact ⟨by first | rfl | (simp; done) | (simp [h2]; done), HT.out⟩
    · rw [decide_eq_false (fun h => h2 h.2)]
      subst h1
      go_enter Tryz.func44, Tryz.ntmps44
      go_wp2_with fail
      go_ret
      exact ⟨by first | rfl | (simp; done) | (simp [h2]; done), HT.out⟩
  · rw [decide_eq_false (fun h => h1 h.1)]
    go_enter Tryz.func44, Tryz.ntmps44
    go_wp2_with fail
    go_ret
    exact ⟨by first | rfl | simp [h1], HT.out⟩
set_option maxRecDepth 100000 in
set_option maxHeartbeats 8000000 in
theorem index_any {E : EventD} {B R : Nat} {w : World} (hE : EvAt w B E) (hR : RowsAt w R) :
    Calls Tryz.prog 43 #[.slice (some ⟨R, 0, none⟩) 13 13, .func (.func 44) #[] #[.pointer (some ⟨B, 0, none⟩)]] w fun e w' => ∃ z, e = .returned (.int .i64 z) ∧ RowIx E z ∧ Turn Nn w w' := by
  have HE := Lib.hid hE
  have HR := Lib.hid hR
  clear hE hR
  go_enter Tryz.func43, Tryz.ntmps43
  go_wp2_with fail
  go_loopw [5, 8] (fun _ i wr => ∃ k : Nat, k ≤ 13 ∧ i = .int .i64 k ∧ (∀ j r, j < k → rowsD[j]? = some r → ¬ (r.kind = E.kind ∧ r.tag = E.tag)) ∧ Turn Nn w wr) (fun _ i _ => 13 - (intOf i).toNat)
  case atStart => exact ⟨0, by omega, rfl, fun j r hj => by omega, Turn.refl _ _⟩
  case round =>
    obtain ⟨k, hk, rfl, hno, ht⟩ := hrel
    have HNO := Lib.hid hno
    have HT := Lib.hid ht
    clear hno ht
    by_cases hlt : k < 13
    · obtain ⟨r, hr⟩ : ∃ r, rowsD[k]? = some r := ⟨rowsD[k]'hlt, List.getElem?_eq_getElem hlt⟩
      have HRK := Lib.hid hr
      obtain ⟨v, hf, x0, x1, x2, x3, x4⟩ := (HR.out.turn HT.out).row5 hr
      have HP := Lib.hid (pick_any (r := r) (v := v) (HE.out.turn HT.out))
      unfold rowA at HP
      clear hf hr
      obtain ⟨d, hd⟩ : ∃ d, decide (r.kind = E.kind ∧ r.tag = E.tag) = d := ⟨_, rfl⟩
      rw [hd] at HP
      have HD := Lib.hid hd
      clear hd
      cases d with
      | true =>
        go_wp2_with fail
        refine HP.out.mono ?_
        rintro e w2 ⟨rfl, t2⟩
        have T2 := Lib.hid (HT.out.trans t2)
        clear t2
        go_wp2_with fail
        go_ret
        have h := of_decide_eq_true HD.out
        exact ⟨_, rfl, .inl ⟨k, r, rfl, HRK.out, h.1, h.2⟩, T2.out⟩
      | false =>
        have HNO2 : Hid (∀ j r, j < k + 1 → rowsD[j]? = some r → ¬ (r.kind = E.kind ∧ r.tag = E.tag)) := Lib.hid (by
          intro j r' hj hr'
          by_cases hjk : j = k
          · subst hjk
            rw [HRK.out] at hr'
            cases hr'
            exact of_decide_eq_false HD.out
          · exact HNO.out j r' (by omega) hr')
        go_wp2_with fail
        refine HP.out.mono ?_
        rintro e w2 ⟨rfl, t2⟩
        have T2 := Lib.hid (HT.out.trans t2)
        clear t2
        go_wp2_with fail
        go_roundw
        case rel => exact ⟨k + 1, by omega, by go_num, HNO2.out, T2.out⟩
        case measure => simp [intOf]; omega
    · go_wp2_with fail
      go_ret
      refine ⟨-1, rfl, .inr ⟨rfl, fun r hr => ?_⟩, HT.out⟩
      obtain ⟨j, hj, hjr⟩ := List.mem_iff_getElem.1 hr
      have hj13 : j < 13 := hj
      exact HNO.out j r (by omega) (by rw [List.getElem?_eq_getElem hj, hjr])
end
section
open Go.RowKit Go.Shelf

def textC (E : EventD) : Bs × Int := match textD E with
  | some t => (t, 0)
  | none => ([], 2)
def TextP (w : World) (E : EventD) (e : Ending) (w' : World) : Prop := e = .returned (.tuple #[.string (BT (textC E).1), .int .i64 (textC E).2]) ∧ Turn Nn w w'
abbrev wrongC : List PanicEntry := [{ v := .iface 90 (.agg #[]), recovered := false }]
def defsT (bb sb cb : Nat) : List Deferred := [{ target := .fn (.func 40) #[], args := #[.pointer (some ⟨bb, 0, none⟩)] }, { target := .fn (.func 39) #[.pointer (some ⟨bb, 0, none⟩), .pointer (some ⟨sb, 0, none⟩), .pointer (some ⟨cb, 0, none⟩)], args := #[] }]
structure Door (w W : World) (bb sb cb : Nat) (x : ByteArray) (y : Int) : Prop where
  h0 : W.heap[bb]? = some (.cells #[.bool false] 4)
  h1 : W.heap[sb]? = some (.cells #[.string x] 9)
  h2 : W.heap[cb]? = some (.cells #[.int .i64 y] 37)
  low : Turn Nn w W
  g0 : w.heap.size ≤ bb
  g1 : w.heap.size ≤ sb
  g2 : w.heap.size ≤ cb
  n01 : bb ≠ sb
  n02 : bb ≠ cb
  n12 : sb ≠ cb
theorem Door.turn {w W W' : World} {bb sb cb : Nat} {x : ByteArray} {y : Int} (D : Door w W bb sb cb x y) (t : Turn Nn W W') : Door w W' bb sb cb x y :=
  ⟨(t.block _ (heap_lt D.h0) (fun h => h)).trans D.h0, (t.block _ (heap_lt D.h1) (fun h => h)).trans D.h1, (t.block _ (heap_lt D.h2) (fun h => h)).trans D.h2, D.low.trans t, D.g0, D.g1, D.g2, D.n01, D.n02, D.n12⟩
theorem res_two {W : World} {sb cb : Nat} {x : ByteArray} {y : Int} {tmps : Array Value} (t2 : tmps[2]?.getD undef = .pointer (some ⟨sb, 0, none⟩)) (t3 : tmps[3]?.getD undef = .pointer (some ⟨cb, 0, none⟩)) (h1 : W.heap[sb]? = some (.cells #[.string x] 9)) (h2 : W.heap[cb]? = some (.cells #[.int .i64 y] 37)) :
    (results Tryz.f21 tmps).run Tryz.prog W = .ok (.tuple #[.string x, .int .i64 y]) W := by
  have c1 : W.cell? ⟨sb, 0, none⟩ = some (.string x) := cell_blk h1
  have c2 : W.cell? ⟨cb, 0, none⟩ = some (.int .i64 y) := cell_blk h2
  simp only [results, show Tryz.f21.results = #[.cell 2 9, .cell 3 37] from rfl]
  go_simp
theorem door_bad {w W : World} {bb sb cb : Nat} {x : ByteArray} {y : Int} {tmps : Array Value} (D : Door w W bb sb cb x y) (t2 : tmps[2]?.getD undef = .pointer (some ⟨sb, 0, none⟩)) (t3 : tmps[3]?.getD undef = .pointer (some ⟨cb, 0, none⟩)) {R : Ending → World → Prop} (hR : ∀ W', Turn Nn w W' → R (.returned (.tuple #[.string ⟨#[]⟩, .int .i64 2])) W') :
    Leaves Tryz.prog Tryz.f21 tmps R (defsT bb sb cb) (.panicking wrongC) W := by
  refine leaves_cons (f := 40) (args := #[.pointer (some ⟨bb, 0, none⟩)]) (by simp) (by simp [go_sem]) ?_
  refine (caught_yes D.h0).mono ?_
  rintro e u' w1 ⟨rfl, rfl, rfl⟩
  have t1 : Turn Nn W (W.alloc (.cells #[] 90)) := (Turn.refl Nn W).alloc _
  have D1 := D.turn t1
  generalize hV : W.alloc (.cells #[] 90) = V at D1 ⊢
  have k0 : (V.setCell ⟨bb, 0, none⟩ (.bool true)).heap[bb]? = some (.cells #[.bool true] 4) := heap_setCell_at D1.h0 0 _
  have k1 : (V.setCell ⟨bb, 0, none⟩ (.bool true)).heap[sb]? = some (.cells #[.string x] 9) := blk_set D1.h1 (fun e => D.n01 e.symm)
  have k2 : (V.setCell ⟨bb, 0, none⟩ (.bool true)).heap[cb]? = some (.cells #[.int .i64 y] 37) := blk_set D1.h2 (fun e => D.n02 e.symm)
  have k3 : Turn Nn w (V.setCell ⟨bb, 0, none⟩ (.bool true)) := D1.low.setCell (p := ⟨bb, 0, none⟩) (.inr D.g0) _
  generalize hV2 : V.setCell ⟨bb, 0, none⟩ (.bool true) = V2 at k0 k1 k2 k3 ⊢
  show Leaves Tryz.prog Tryz.f21 tmps R _ .returning V2
  refine leaves_cons (f := 39) (args := #[.pointer (some ⟨bb, 0, none⟩), .pointer (some ⟨sb, 0, none⟩), .pointer (some ⟨cb, 0, none⟩)]) (by simp) (by simp [go_sem]) ?_
  refine (textD_on k0 k1 k2 D.n12).mono ?_
  rintro e u' w1 ⟨rfl, rfl, rfl⟩
  have m1 : ((V2.setCell ⟨sb, 0, none⟩ (.string ⟨#[]⟩)).setCell ⟨cb, 0, none⟩ (.int .i64 2)).heap[sb]? = some (.cells #[.string ⟨#[]⟩] 9) := blk_set (heap_setCell_at k1 0 _) D.n12
  have m2 : ((V2.setCell ⟨sb, 0, none⟩ (.string ⟨#[]⟩)).setCell ⟨cb, 0, none⟩ (.int .i64 2)).heap[cb]? = some (.cells #[.int .i64 2] 37) := heap_setCell_at (blk_set k2 (fun e => D.n12 e.symm)) 0 _
  exact ⟨_, res_two t2 t3 m1 m2, hR _ ((k3.setCell (p := ⟨sb, 0, none⟩) (.inr D.g1) _).setCell (p := ⟨cb, 0, none⟩) (.inr D.g2) _)⟩
theorem door_ok {w W : World} {bb sb cb : Nat} {x : ByteArray} {y : Int} {tmps : Array Value} (D : Door w W bb sb cb x y) (t2 : tmps[2]?.getD undef = .pointer (some ⟨sb, 0, none⟩)) (t3 : tmps[3]?.getD undef = .pointer (some ⟨cb, 0, none⟩)) {R : Ending → World → Prop} (hR : R (.returned (.tuple #[.string x, .int .i64 y])) W) :
    Leaves Tryz.prog Tryz.f21 tmps R (defsT bb sb cb) .returning W := by
  refine leaves_cons (f := 40) (args := #[.pointer (some ⟨bb, 0, none⟩)]) (by simp) (by simp [go_sem]) ?_
  refine (caught_no _ _).mono ?_
  rintro e u' w1 ⟨rfl, rfl, rfl⟩
  show Leaves Tryz.prog Tryz.f21 tmps R _ .returning w1
  refine leaves_cons (f := 39) (args := #[.pointer (some ⟨bb, 0, none⟩), .pointer (some ⟨sb, 0, none⟩), .pointer (some ⟨cb, 0, none⟩)]) (by simp) (by simp [go_sem]) ?_
  refine (textD_off D.h0).mono ?_
  rintro e u' w1 ⟨rfl, rfl, rfl⟩
  exact ⟨_, res_two t2 t3 D.h1 D.h2, hR⟩
/-- A list of words joined. -/
theorem join_eq : ∀ l : List Bs, Lib.join l [32] = joinC 32 l
  | [] => rfl
  | [x] => by rw [Lib.join_one]; rfl
  | x :: y :: r => by
    have ih := join_eq (y :: r)
    unfold Lib.join at ih ⊢
    rw [joinC, ← ih]
    simp [List.intercalate, List.intersperse]
theorem joinC_size (l : List Bs) (n : Nat) (h : ∀ x ∈ l, x.length ≤ n) : (joinC 32 l).length ≤ (n + 1) * l.length := by
  induction l with
  | nil => simp [joinC]
  | cons x l ih =>
    have ih := ih (fun y hy => h y (List.mem_cons_of_mem _ hy))
    have hx := h x (by simp)
    cases l with
    | nil => simp only [joinC, List.length_cons, List.length_nil]; omega
    | cons y r =>
      rw [joinC, List.length_append, List.length_cons]
      simp only [List.length_cons] at ih ⊢
      have e : (n + 1) * (r.length + 1 + 1) = (n + 1) * (r.length + 1) + (n + 1) := by rw [Nat.mul_succ]
      omega
theorem join_any {v : Value} {L : List Bs} {w w0 : World} (h : OWS w0 v L w) (hne : L ≠ []) (hL : L.length ≤ 100) (hx : ∀ x ∈ L, x.length ≤ 4000000) :
    Calls Tryz.prog 47 #[v, .string ⟨#[32]⟩] w fun e w' => e = .returned (.string (BT (joinC 32 L))) ∧ Turn Nn w w' := by
  rcases h.str with ⟨h0, _⟩ | ⟨b, o, cap, rfl, hcap, hc⟩
  · exact absurd h0 hne
  · have hmap : (L.map BT).map (·.data.toList) = L := by rw [List.map_map]; exact (List.map_congr_left (fun x _ => BT_data x)).trans (List.map_id _)
    have hs : (⟨#[32]⟩ : ByteArray).data.toList = [32] := rfl
    have hlen := joinC_size L 4000000 hx
    have key := Tryz.strings_Join b o cap (L.map BT) ⟨#[32]⟩ w (fun j x hj => by
        have hj2 : j < L.length := by
          have := (List.getElem?_eq_some_iff.1 hj).1
          simpa using this
        rw [hc j hj2, ← (Option.some.inj ((List.getElem?_map ..).symm.trans hj |>.symm ▸ rfl : some x = some x))]
        rw [List.getElem?_map, List.getElem?_eq_getElem hj2] at hj
        cases hj
        simp [hj2, BT]) (by
        have h0 : 0 < L.length := List.length_pos_iff.2 hne
        exact World.block_lt_of_cell? _ _ (hc 0 h0)) (by simp; omega) (by simpa using hcap) (by
        rw [hmap, hs, join_eq]
        have h2 : 4000001 * L.length ≤ 4000001 * 100 := Nat.mul_le_mul_left _ hL
        omega)
    rw [List.length_map, hmap, hs, join_eq] at key
    refine key.mono ?_
    rintro e w' ⟨rfl, hb⟩
    exact ⟨rfl, Turn.of_below hb⟩
end
section
open Go.RowKit Go.Shelf

theorem leaves_congr {P : Program} {fn : Func} {t1 t2 : Array Value} {R : Ending → World → Prop} (h : results fn t1 = results fn t2) :
    ∀ (ds : List Deferred) (u : FrameMode) (w : World), Leaves P fn t1 R ds u w → Leaves P fn t2 R ds u w
  | [], .returning, w, ⟨v, h1, h2⟩ => ⟨v, by rw [← h]; exact h1, h2⟩
  | [], .panicking c, w, h' => h'
  | [], .run, w, h' => h'
  | d :: ds, u, w, ⟨h0, fv, cap, f, args, h1, h2, h3⟩ => ⟨h0, fv, cap, f, args, h1, h2, h3.mono fun e u' w' hr => by
      cases e with
      | returned _ => exact leaves_congr h ds _ _ hr
      | panicked _ => exact leaves_congr h ds _ _ hr
      | outgrown => exact hr⟩
theorem res21 {tmps : Array Value} {k : Nat} {v : Value} (h2 : k ≠ 2) (h3 : k ≠ 3) : results Tryz.f21 (tmps.setIfInBounds k v) = results Tryz.f21 tmps := by
  have e2 : (tmps.setIfInBounds k v)[2]? = tmps[2]? := by rw [Array.getElem?_setIfInBounds, if_neg h2]
  have e3 : (tmps.setIfInBounds k v)[3]? = tmps[3]? := by rw [Array.getElem?_setIfInBounds, if_neg h3]
  simp only [results, show Tryz.f21.results = #[.cell 2 9, .cell 3 37] from rfl]
  simp [e2, e3]
theorem put21 {R : Ending → World → Prop} {c : List PanicEntry} {a : Act} {k : Nat} {v : Value} {w : World} (h2 : k ≠ 2) (h3 : k ≠ 3) (h : bodyPostD Tryz.prog Tryz.f21 R (.panic c) (a.put (some k) v) w) : bodyPostD Tryz.prog Tryz.f21 R (.panic c) a w :=
  leaves_congr (res21 h2 h3) _ _ _ h
/-- The world in which Text begins. -/
structure Open (w W : World) (n : Nat) (E : EventD) : Prop where
  ex : ∃ w0 w1 w2 w3, w.heap.size = n ∧ w.alloc (.cells #[.int .i64 E.kind, .int .i64 E.slot, .string (BT E.actor), .int .i64 E.pc, .string (BT E.chan), .int .i64 E.side, .int .i64 E.tag, .int .i64 E.word, .string (BT E.name)] 34) = w0 ∧ w0.heap.size = n + 1 ∧ w0.alloc (.cells #[.string ⟨#[]⟩] 9) = w1 ∧ w1.heap.size = n + 2 ∧ w1.alloc (.cells #[.int .i64 0] 37) = w2 ∧ w2.heap.size = n + 3 ∧ w2.alloc (.cells #[.bool false] 4) = w3 ∧ w3.cell? ⟨n + 3, 0, none⟩ = some (.bool false) ∧ w3.frozen? ⟨n + 3, 0, none⟩ = false ∧ w3.setCell ⟨n + 3, 0, none⟩ (.bool false) = W
  door : Door w W (n + 3) (n + 1) (n + 2) ⟨#[]⟩ 0
  ev : EvAt W n E
theorem open_ex (w : World) (E : EventD) : ∃ W n, Open w W n E := by
  obtain ⟨w0, e0⟩ : ∃ w0, w.alloc (.cells (evC E) 34) = w0 := ⟨_, rfl⟩
  obtain ⟨w1, e1⟩ : ∃ w1, w0.alloc (.cells #[.string ⟨#[]⟩] 9) = w1 := ⟨_, rfl⟩
  obtain ⟨w2, e2⟩ : ∃ w2, w1.alloc (.cells #[.int .i64 0] 37) = w2 := ⟨_, rfl⟩
  obtain ⟨w3, e3⟩ : ∃ w3, w2.alloc (.cells #[.bool false] 4) = w3 := ⟨_, rfl⟩
  obtain ⟨b0, t0⟩ := alloc1 e0
  obtain ⟨b1, t1⟩ := alloc1 e1
  obtain ⟨b2, t2⟩ := alloc1 e2
  obtain ⟨b3, t3⟩ := alloc1 e3
  have s0 : w0.heap.size = w.heap.size + 1 := by rw [← e0, World.size_alloc]
  have s1 : w1.heap.size = w.heap.size + 2 := by rw [← e1, World.size_alloc, s0]
  have s2 : w2.heap.size = w.heap.size + 3 := by rw [← e2, World.size_alloc, s1]
  obtain ⟨n, hn⟩ : ∃ n, w.heap.size = n := ⟨_, rfl⟩
  rw [hn] at b0 s0 s1 s2
  rw [s0] at b1
  rw [s1] at b2
  rw [s2] at b3
  have c3 : w3.cell? ⟨n + 3, 0, none⟩ = some (.bool false) := cell_blk b3
  have z3 : w3.frozen? ⟨n + 3, 0, none⟩ = false := frozen_blk (o := 0) b3
  have tt := ((t0.trans t1).trans t2).trans t3
  obtain ⟨W, e4⟩ : ∃ W, w3.setCell ⟨n + 3, 0, none⟩ (.bool false) = W := ⟨_, rfl⟩
  have k3 : W.heap[n + 3]? = some (.cells #[.bool false] 4) := by rw [← e4]; exact heap_setCell_at b3 0 _
  have k2 : W.heap[n + 2]? = some (.cells #[.int .i64 0] 37) := by rw [← e4]; exact blk_set ((t3.block _ (heap_lt b2) (fun h => h)).trans b2) (by omega)
  have k1 : W.heap[n + 1]? = some (.cells #[.string ⟨#[]⟩] 9) := by rw [← e4]; exact blk_set (((t2.trans t3).block _ (heap_lt b1) (fun h => h)).trans b1) (by omega)
  have k0 : W.heap[n]? = some (.cells (evC E) 34) := by rw [← e4]; exact blk_set ((((t1.trans t2).trans t3).block _ (heap_lt b0) (fun h => h)).trans b0) (by omega)
  refine ⟨W, n, ⟨w0, w1, w2, w3, hn, e0, s0, e1, s1, e2, s2, e3, c3, z3, e4⟩, ⟨k3, k1, k2, ?_, by omega, by omega, by omega, by omega, by omega, by omega⟩, k0⟩
  rw [← e4]
  exact tt.setCell (p := ⟨n + 3, 0, none⟩) (.inr (by show w.heap.size ≤ n + 3; omega)) _
/-- Both results are laid. -/
theorem Door.set {w W : World} {bb sb cb : Nat} {x : ByteArray} (D : Door w W bb sb cb x 0) (x' : ByteArray) : Door w ((W.setCell ⟨sb, 0, none⟩ (.string x')).setCell ⟨cb, 0, none⟩ (.int .i64 0)) bb sb cb x' 0 :=
  ⟨blk_set (blk_set D.h0 D.n01) D.n02, blk_set (heap_setCell_at D.h1 0 _) D.n12, heap_setCell_at (blk_set D.h2 (fun e => D.n12 e.symm)) 0 _, (D.low.setCell (p := ⟨sb, 0, none⟩) (.inr D.g1) _).setCell (p := ⟨cb, 0, none⟩) (.inr D.g2) _, D.g0, D.g1, D.g2, D.n01, D.n02, D.n12⟩
theorem Door.cells {w W : World} {bb sb cb : Nat} {x : ByteArray} (D : Door w W bb sb cb x 0) (x' : ByteArray) :
    W.cell? ⟨sb, 0, none⟩ = some (.string x) ∧ W.frozen? ⟨sb, 0, none⟩ = false ∧ (W.setCell ⟨sb, 0, none⟩ (.string x')).cell? ⟨cb, 0, none⟩ = some (.int .i64 0) ∧ (W.setCell ⟨sb, 0, none⟩ (.string x')).frozen? ⟨cb, 0, none⟩ = false :=
  ⟨cell_blk D.h1, frozen_blk (o := 0) D.h1, cell_blk (blk_set D.h2 (fun e => D.n12 e.symm)), frozen_blk (o := 0) (blk_set D.h2 (fun e => D.n12 e.symm))⟩
theorem textP_none {w W : World} {E : EventD} (h : textD E = none) (t : Turn Nn w W) : TextP w E (.returned (.tuple #[.string ⟨#[]⟩, .int .i64 2])) W := by
  refine ⟨?_, t⟩
  unfold textC
  rw [h]
  rfl
theorem textP_some {w W : World} {E : EventD} {s : Bs} (h : textD E = some s) (t : Turn Nn w W) : TextP w E (.returned (.tuple #[.string (BT s), .int .i64 0])) W := by
  refine ⟨?_, t⟩
  unfold textC
  rw [h]
theorem OWS.at0 {w0 w : World} {v : Value} {L : List Bs} (h : OWS w0 v L w) (hne : L ≠ []) : ∃ lb cap, v = .slice (some ⟨lb, 0, none⟩) L.length cap ∧ L.length ≤ cap ∧ WAt w lb L := by
  rcases h.own.2 with ⟨rfl, h0⟩ | ⟨g, cap, cur, rfl, hb, hg, hn, _, hsz, ht⟩
  · exact absurd (List.eq_nil_of_length_eq_zero h0) hne
  · refine ⟨g, cap, rfl, hn, fun i hi => ?_⟩
    rw [cell_blk hg]
    have e1 : cur[i]? = (cur.toList.take (L.length * 1))[i]? := by
      rw [List.getElem?_take_of_lt (by omega)]; simp
    rw [e1, ht]
    unfold strCellsL
    simp [hi, BT]
theorem rows_uniq : ∀ r ∈ rowsD, ∀ r' ∈ rowsD, r.kind = r'.kind → r.tag = r'.tag → r = r' := by decide
theorem sizeR_le {r : RowD} (hr : r ∈ rowsD) : sizeR r ≤ 6 := (by decide : ∀ r ∈ rowsD, sizeR r ≤ 6) r hr
theorem rows_word : ∀ r ∈ rowsD, r.word.length ≤ 10 ∧ r.msg.length ≤ 10 := by decide
theorem find_no {E : EventD} (h : ∀ r ∈ rowsD, ¬ (r.kind = E.kind ∧ r.tag = E.tag)) : rowsD.find? (fun r => decide (r.kind = E.kind ∧ r.tag = E.tag)) = none :=
  List.find?_eq_none.2 fun r hr => by simpa using h r hr
theorem find_yes {E : EventD} {r : RowD} (hr : r ∈ rowsD) (h1 : r.kind = E.kind) (h2 : r.tag = E.tag) : rowsD.find? (fun r => decide (r.kind = E.kind ∧ r.tag = E.tag)) = some r := by
  cases hf : rowsD.find? (fun r => decide (r.kind = E.kind ∧ r.tag = E.tag)) with
  | none => exact absurd (List.find?_eq_none.1 hf r hr) (by simp [h1, h2])
  | some r' =>
    have hm := List.mem_of_find?_eq_some hf
    have hp := List.find?_some hf
    simp only [decide_eq_true_eq] at hp
    rw [rows_uniq r hr r' hm (h1.trans hp.1.symm) (h2.trans hp.2.symm)]
theorem textD_no {E : EventD} (h0 : E.kind ≠ 0) (h : ∀ r ∈ rowsD, ¬ (r.kind = E.kind ∧ r.tag = E.tag)) : textD E = none := by
  unfold textD
  rw [if_neg h0, find_no h]
def textX (r : RowD) (E : EventD) : Option (List Bs) → Option Bs
  | none => none
  | some w => if readR r w = some E then some (joinC 32 w) else none
theorem textD_rowX {E : EventD} {r : RowD} (h0 : E.kind ≠ 0) (hr : r ∈ rowsD) (h1 : r.kind = E.kind) (h2 : r.tag = E.tag) : textD E = textX r E (tellR r E) := by
  unfold textD
  rw [if_neg h0, find_yes hr h1 h2]
  unfold textX
  rfl
theorem tellF_len {f : Fld} {E : EventD} {t : Bs} (hs : ESmall E) (h : tellF f E = some t) : t.length ≤ 2000000 := by
  have h1 := itoa_len hs.ints.word
  have h2 := itoa_len hs.side
  have h3 := hs.chan
  have h4 := hs.name
  cases f <;> simp only [tellF] at h
  · cases h; omega
  · split at h
    · cases h; omega
    · cases h
  · split at h
    · cases h; omega
    · cases h
  · split at h
    · cases h; omega
    · cases h
  · split at h
    · cases h; simp; omega
    · cases h
  · split at h
    · cases h; omega
    · cases h
theorem tellR_len {r : RowD} {E : EventD} {ws : List Bs} (hr : r ∈ rowsD) (hs : ESmall E) (h : tellR r E = some ws) : ws.length = sizeR r ∧ (∀ x ∈ ws, x.length ≤ 4000000) := by
  obtain ⟨_, _, _, _, _, _, hsh⟩ := rows_shape r hr
  obtain ⟨hw, hm⟩ := rows_word r hr
  have i1 := itoa_len hs.ints.slot
  have i2 := itoa_len hs.ints.pc
  have ha := hs.actor
  have hh : ∀ x ∈ headW r E, x.length ≤ 4000000 := by
    intro x hx
    unfold headW at hx
    simp only [List.mem_cons, List.not_mem_nil, or_false] at hx
    rcases hx with rfl | rfl | rfl
    · omega
    · simp; omega
    · omega
  unfold tellR at h
  rcases hsh with ⟨hf, h0⟩ | ⟨f, hf, h0⟩ | ⟨g, hf, h0, _⟩
  · rw [hf] at h
    cases h
    exact ⟨by unfold sizeR; rw [hf, h0]; rfl, hh⟩
  · rw [hf] at h
    obtain ⟨t, ht, rfl⟩ := Option.map_eq_some_iff.1 h
    refine ⟨by unfold sizeR; rw [hf, h0]; rfl, fun x hx => ?_⟩
    rcases List.mem_append.1 hx with hx | hx
    · exact hh x hx
    · have hl := tellF_len hs ht
      obtain rfl : x = t := by simpa using hx
      omega
  · rw [hf] at h
    simp only at h
    cases ht : tellF .place E with
    | none => rw [ht] at h; cases h
    | some t =>
      cases hu : tellF g E with
      | none => rw [ht, hu] at h; cases h
      | some u =>
        rw [ht, hu] at h
        cases h
        refine ⟨by unfold sizeR; rw [hf, Nat.min_eq_right (by omega)]; rfl, fun x hx => ?_⟩
        have l1 := tellF_len hs ht
        have l2 := tellF_len hs hu
        rcases List.mem_append.1 hx with hx | hx
        · exact hh x hx
        · simp only [List.mem_cons, List.not_mem_nil, or_false] at hx
          rcases hx with rfl | rfl | rfl <;> omega
end
end Go.Proofs.YtpbjblbeepbklaaGreatDoor
