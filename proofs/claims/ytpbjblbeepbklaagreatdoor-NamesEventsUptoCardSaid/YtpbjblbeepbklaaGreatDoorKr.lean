/- The program's walks: NamesOrder's body, by the contracts of what it calls. Printed by gen_xr.py. -/
import Derived.Test.YtpbjblbeepbklaaGreatDoorKb
import Derived.Deep.Cut
namespace Go.Proofs.YtpbjblbeepbklaaGreatDoor
set_option linter.unusedSimpArgs false
set_option linter.unusedVariables false
open Go.RowKit

abbrev Gives (w : World) (f : FuncId) (args : Array Value) (v : Value) : Prop := ∀ u, Turn Nn w u → Calls Tryz.prog f args u fun e u' => e = .returned v ∧ Turn Nn u u'
abbrev Cells3 (q : Nat) (v0 v1 v2 : Value) (u : World) : Prop := u.cell? ⟨q, 0, none⟩ = some v0 ∧ u.cell? ⟨q, 1, none⟩ = some v1 ∧ u.cell? ⟨q, 2, none⟩ = some v2
theorem tri1 {dab lba : Bool} (h : (true != lba) = !dab) (hi : dab = true → true = false) : dab = false ∧ lba = false := by cases dab <;> cases lba <;> simp_all
theorem tri2 {dab lba : Bool} (h : (false != lba) = !dab) : lba = !dab := by cases dab <;> cases lba <;> simp_all
theorem cells3_turn {q : Nat} {v0 v1 v2 : Value} {u u' : World} (h : Hid (Cells3 q v0 v1 v2 u)) (t : Turn Nn u u') : Hid (Cells3 q v0 v1 v2 u') := Lib.hid ⟨cell_turn t h.out.1, cell_turn t h.out.2.1, cell_turn t h.out.2.2⟩

set_option maxRecDepth 100000 in
set_option maxHeartbeats 16000000 in
theorem order_walk1 {w : World} {v0 v1 v2 : Value} {SA SB SC SP : ByteArray} {dab lab lba lbc lac : Bool} 
    (hW : Gives w 20 #[] (.bool true)) (n0 : Gives w 9 #[v0, .int .i64 1] (.string SA)) (n1 : Gives w 9 #[v1, .int .i64 1] (.string SB)) (n2 : Gives w 9 #[v2, .int .i64 1] (.string SC))
    (hAA : Gives w 18 #[.string SA, .string SA] (.bool false)) (hAB : Gives w 18 #[.string SA, .string SB] (.bool lab)) (hBA : Gives w 18 #[.string SB, .string SA] (.bool lba))
    (hBC : Gives w 18 #[.string SB, .string SC] (.bool lbc)) (hAC : Gives w 18 #[.string SA, .string SC] (.bool lac))
    (hd : (SA.toList == SB.toList) = dab) (hxor : (lab != lba) = !dab) (hirr : dab = true → lab = false) (htr : lab = true → lbc = true → lac = true)
    (hP : Gives w 16 #[.string SA] (.string SP)) (hCh : Gives w 14 #[.string SA] (.bool true)) (hAc : Gives w 12 #[.string SA] (.bool false))
    (hAP : Gives w 18 #[.string SA, .string SP] (.bool false)) :
    Calls Tryz.prog 7 #[.agg #[v0, v1, v2], .bool true] w fun e w' => e = .returned (.bool true) ∧ Turn Nn w w' := by
  obtain ⟨w1, e1⟩ : ∃ w1, w.alloc (.cells #[v0, v1, v2] 47) = w1 := ⟨_, rfl⟩
  obtain ⟨b1, t1⟩ := alloc1 e1
  obtain ⟨q, hq⟩ : ∃ q, w.heap.size = q := ⟨_, rfl⟩
  rw [hq] at b1
  have CEL : Hid (∀ u, Turn Nn w1 u → Cells3 q v0 v1 v2 u) := Lib.hid (fun u t => ⟨cell_turn t (cell_blk (o := 0) b1), cell_turn t (cell_blk (o := 1) b1), cell_turn t (cell_blk (o := 2) b1)⟩)
  have T1 := Lib.hid t1
  have HD := Lib.hid hd
  clear b1 t1
  go_enter Tryz.func7, Tryz.ntmps7
  go_wp2_with fail
  refine (hW _ T1.out).mono ?_
  rintro e w2 ⟨rfl, t2⟩
  have T2 := Lib.hid (T1.out.trans t2)
  have K2 := Lib.hid t2
  clear t2
  go_upto_region 6 with (fail)
  refine held_begin (Cells3 q v0 v1 v2) (by kernel_rfl) ?_
  have C0 : Hid (Cells3 q v0 v1 v2 w2.drew) := Lib.hid (CEL.out _ (K2.out.trans (Turn.refl Nn w2).drew))
  have U0 : Hid (Turn Nn w w2.drew) := Lib.hid (T2.out.trans (Turn.refl Nn w2).drew)
  generalize w2.drew = wd at C0 U0 ⊢
  refine held_take 0 ?_ rfl (by kernel_rfl) (by kernel_rfl) (by kernel_rfl) (fun _ _ _ h => h) (Or.inl ⟨by kernel_rfl, ?_⟩) C0.out ?_
  rotate_left 1
  · intro u hu; obtain ⟨y0, y1, y2⟩ := hu; go_simp; first | done | with_reducible rfl
  try simp only [Act.put, nA, nB, nC, nD, nE, nF]
  refine held_take 1 ?_ rfl (by kernel_rfl) (by kernel_rfl) (by kernel_rfl) (fun _ _ _ h => h) (Or.inl ⟨by kernel_rfl, ?_⟩) C0.out ?_
  rotate_left 1
  · intro u hu; obtain ⟨y0, y1, y2⟩ := hu; go_simp; first | done | with_reducible rfl
  try simp only [Act.put, nA, nB, nC, nD, nE, nF]
  refine held_take 2 ?_ rfl (by kernel_rfl) (by kernel_rfl) (by kernel_rfl) (fun _ _ _ h => h) (Or.inl ⟨by kernel_rfl, ?_⟩) C0.out ?_
  rotate_left 1
  · intro u hu; obtain ⟨y0, y1, y2⟩ := hu; go_simp; first | done | with_reducible rfl
  try simp only [Act.put, nA, nB, nC, nD, nE, nF]
  refine held_take 4 ?_ rfl (by kernel_rfl) (by kernel_rfl) (by kernel_rfl) (fun _ _ _ h => h) (Or.inl ⟨by kernel_rfl, ?_⟩) C0.out ?_
  rotate_left 1
  · intro u hu; obtain ⟨y0, y1, y2⟩ := hu; go_simp; first | done | with_reducible rfl
  try simp only [Act.put, nA, nB, nC, nD, nE, nF]
  refine held_take 5 ?_ rfl (by kernel_rfl) (by kernel_rfl) (by kernel_rfl) (fun _ _ _ h => h) (Or.inl ⟨by kernel_rfl, ?_⟩) C0.out ?_
  rotate_left 1
  · intro u hu; obtain ⟨y0, y1, y2⟩ := hu; go_simp; first | done | with_reducible rfl
  try simp only [Act.put, nA, nB, nC, nD, nE, nF]
  refine held_take 6 ?_ rfl (by kernel_rfl) (by kernel_rfl) (by kernel_rfl) (fun _ _ _ h => h) (Or.inl ⟨by kernel_rfl, ?_⟩) C0.out ?_
  rotate_left 1
  · intro u hu; obtain ⟨y0, y1, y2⟩ := hu; go_simp; first | done | with_reducible rfl
  try simp only [Act.put, nA, nB, nC, nD, nE, nF]
  refine held_take 8 ?_ rfl (by kernel_rfl) (by kernel_rfl) (by kernel_rfl) (fun _ _ _ h => h) (Or.inl ⟨by kernel_rfl, ?_⟩) C0.out ?_
  rotate_left 1
  · intro u hu; obtain ⟨y0, y1, y2⟩ := hu; go_simp; first | done | with_reducible rfl
  try simp only [Act.put, nA, nB, nC, nD, nE, nF]
  refine held_take 9 ?_ rfl (by kernel_rfl) (by kernel_rfl) (by kernel_rfl) (fun _ _ _ h => h) (Or.inl ⟨by kernel_rfl, ?_⟩) C0.out ?_
  rotate_left 1
  · intro u hu; obtain ⟨y0, y1, y2⟩ := hu; go_simp; first | done | with_reducible rfl
  try simp only [Act.put, nA, nB, nC, nD, nE, nF]
  refine held_take 10 ?_ rfl (by kernel_rfl) (by kernel_rfl) (by kernel_rfl) (fun _ _ _ h => h) (Or.inl ⟨by kernel_rfl, ?_⟩) C0.out ?_
  rotate_left 1
  · intro u hu; obtain ⟨y0, y1, y2⟩ := hu; go_simp; first | done | with_reducible rfl
  try simp only [Act.put, nA, nB, nC, nD, nE, nF]
  refine held_call 3 (by kernel_rfl) rfl (by kernel_rfl) (by first | rfl | go_simp) (n0 _ U0.out) ?_ (fun c u h => by cases h.1) (fun u h => by cases h.1)
  rintro v u ⟨he, t⟩
  cases he
  have U1 := Lib.hid (U0.out.trans t)
  have C1 := cells3_turn C0 t
  clear t
  refine ⟨C1.out, ?_⟩
  try simp only [Act.put, nA, nB, nC, nD, nE, nF]
  refine held_call 7 (by kernel_rfl) rfl (by kernel_rfl) (by first | rfl | go_simp) (n1 _ U1.out) ?_ (fun c u h => by cases h.1) (fun u h => by cases h.1)
  rintro v u ⟨he, t⟩
  cases he
  have U2 := Lib.hid (U1.out.trans t)
  have C2 := cells3_turn C1 t
  clear t
  refine ⟨C2.out, ?_⟩
  try simp only [Act.put, nA, nB, nC, nD, nE, nF]
  refine held_call 11 (by kernel_rfl) rfl (by kernel_rfl) (by first | rfl | go_simp) (n2 _ U2.out) ?_ (fun c u h => by cases h.1) (fun u h => by cases h.1)
  rintro v u ⟨he, t⟩
  cases he
  have T3 := Lib.hid (U2.out.trans t)
  have C3 := cells3_turn C2 t
  clear t
  refine ⟨C3.out, ?_⟩
  try simp only [Act.put, nA, nB, nC, nD, nE, nF]
  refine held_take 12 ?_ rfl (by kernel_rfl) (by kernel_rfl) (by kernel_rfl) (fun _ _ _ h => h) (Or.inl ⟨by kernel_rfl, ?_⟩) C3.out ?_
  rotate_left 1
  · intro u hu; obtain ⟨y0, y1, y2⟩ := hu; go_simp; first | done | with_reducible rfl
  try simp only [Act.put, nA, nB, nC, nD, nE, nF]
  refine held_take 13 ?_ rfl (by kernel_rfl) (by kernel_rfl) (by kernel_rfl) (fun _ _ _ h => h) (Or.inl ⟨by kernel_rfl, ?_⟩) C3.out ?_
  rotate_left 1
  · intro u hu; obtain ⟨y0, y1, y2⟩ := hu; go_simp; first | done | with_reducible rfl
  try simp only [Act.put, nA, nB, nC, nD, nE, nF]
  refine held_take 14 ?_ rfl (by kernel_rfl) (by kernel_rfl) (by kernel_rfl) (fun _ _ _ h => h) (Or.inl ⟨by kernel_rfl, ?_⟩) C3.out ?_
  rotate_left 1
  · intro u hu; obtain ⟨y0, y1, y2⟩ := hu; go_simp; first | done | with_reducible rfl
  try simp only [Act.put, nA, nB, nC, nD, nE, nF]
  refine wpAnyH_done (by kernel_rfl) ?_ _
  clear C0 C1 C2 C3 U0 U1 U2 K2 T1 T2 CEL n0 n1 n2 hW
  go_wp2_with fail
  refine (hAA _ T3.out).mono ?_
  rintro e u ⟨rfl, t⟩
  have T4 := Lib.hid (T3.out.trans t)
  clear t
  go_wp2_with fail
  cases lab with
  | true =>
    have h2 := tri1 hxor hirr
    obtain ⟨rfl, rfl⟩ := h2
    cases lbc with
    | true =>
      obtain rfl : lac = true := htr rfl rfl
      clear htr hxor hirr
      refine (hAB _ T4.out).mono ?_
      rintro e u ⟨rfl, t⟩
      have T5 := Lib.hid (T4.out.trans t)
      clear t
      go_wp2_with fail
      refine (hBA _ T5.out).mono ?_
      rintro e u ⟨rfl, t⟩
      have T6 := Lib.hid (T5.out.trans t)
      clear t
      go_wp2_with fail
      refine (hAB _ T6.out).mono ?_
      rintro e u ⟨rfl, t⟩
      have T7 := Lib.hid (T6.out.trans t)
      clear t
      go_wp2_with fail
      refine (hBC _ T7.out).mono ?_
      rintro e u ⟨rfl, t⟩
      have T8 := Lib.hid (T7.out.trans t)
      clear t
      go_wp2_with fail
      refine (hAC _ T8.out).mono ?_
      rintro e u ⟨rfl, t⟩
      have T9 := Lib.hid (T8.out.trans t)
      clear t
      go_wp2_with fail
      refine (hCh _ T9.out).mono ?_
      rintro e u ⟨rfl, t⟩
      have T10 := Lib.hid (T9.out.trans t)
      clear t
      go_wp2_with fail
      refine (hAc _ T10.out).mono ?_
      rintro e u ⟨rfl, t⟩
      have T11 := Lib.hid (T10.out.trans t)
      clear t
      go_wp2_with fail
      refine (hP _ T11.out).mono ?_
      rintro e u ⟨rfl, t⟩
      have T12 := Lib.hid (T11.out.trans t)
      clear t
      go_wp2_with fail
      refine (hAP _ T12.out).mono ?_
      rintro e u ⟨rfl, t⟩
      have T13 := Lib.hid (T12.out.trans t)
      clear t
      go_wp2_with fail
      go_ret
      exact ⟨rfl, T13.out⟩
    | false =>
      clear htr hxor hirr
      refine (hAB _ T4.out).mono ?_
      rintro e u ⟨rfl, t⟩
      have T5 := Lib.hid (T4.out.trans t)
      clear t
      go_wp2_with fail
      refine (hBA _ T5.out).mono ?_
      rintro e u ⟨rfl, t⟩
      have T6 := Lib.hid (T5.out.trans t)
      clear t
      go_wp2_with fail
      refine (hAB _ T6.out).mono ?_
      rintro e u ⟨rfl, t⟩
      have T7 := Lib.hid (T6.out.trans t)
      clear t
      go_wp2_with fail
      refine (hBC _ T7.out).mono ?_
      rintro e u ⟨rfl, t⟩
      have T8 := Lib.hid (T7.out.trans t)
      clear t
      go_wp2_with fail
      refine (hCh _ T8.out).mono ?_
      rintro e u ⟨rfl, t⟩
      have T9 := Lib.hid (T8.out.trans t)
      clear t
      go_wp2_with fail
      refine (hAc _ T9.out).mono ?_
      rintro e u ⟨rfl, t⟩
      have T10 := Lib.hid (T9.out.trans t)
      clear t
      go_wp2_with fail
      refine (hP _ T10.out).mono ?_
      rintro e u ⟨rfl, t⟩
      have T11 := Lib.hid (T10.out.trans t)
      clear t
      go_wp2_with fail
      refine (hAP _ T11.out).mono ?_
      rintro e u ⟨rfl, t⟩
      have T12 := Lib.hid (T11.out.trans t)
      clear t
      go_wp2_with fail
      go_ret
      exact ⟨rfl, T12.out⟩
  | false =>
    obtain rfl := tri2 hxor
    cases dab with
    | true =>
      clear htr hxor hirr
      refine (hAB _ T4.out).mono ?_
      rintro e u ⟨rfl, t⟩
      have T5 := Lib.hid (T4.out.trans t)
      clear t
      go_wp2_with fail
      refine (hBA _ T5.out).mono ?_
      rintro e u ⟨rfl, t⟩
      have T6 := Lib.hid (T5.out.trans t)
      clear t
      go_wp2_with fail
      refine (hAB _ T6.out).mono ?_
      rintro e u ⟨rfl, t⟩
      have T7 := Lib.hid (T6.out.trans t)
      clear t
      go_wp2_with fail
      refine (hCh _ T7.out).mono ?_
      rintro e u ⟨rfl, t⟩
      have T8 := Lib.hid (T7.out.trans t)
      clear t
      go_wp2_with fail
      refine (hAc _ T8.out).mono ?_
      rintro e u ⟨rfl, t⟩
      have T9 := Lib.hid (T8.out.trans t)
      clear t
      go_wp2_with fail
      refine (hP _ T9.out).mono ?_
      rintro e u ⟨rfl, t⟩
      have T10 := Lib.hid (T9.out.trans t)
      clear t
      go_wp2_with fail
      refine (hAP _ T10.out).mono ?_
      rintro e u ⟨rfl, t⟩
      have T11 := Lib.hid (T10.out.trans t)
      clear t
      go_wp2_with fail
      go_ret
      exact ⟨rfl, T11.out⟩
    | false =>
      clear htr hxor hirr
      refine (hAB _ T4.out).mono ?_
      rintro e u ⟨rfl, t⟩
      have T5 := Lib.hid (T4.out.trans t)
      clear t
      go_wp2_with fail
      refine (hBA _ T5.out).mono ?_
      rintro e u ⟨rfl, t⟩
      have T6 := Lib.hid (T5.out.trans t)
      clear t
      go_wp2_with fail
      refine (hAB _ T6.out).mono ?_
      rintro e u ⟨rfl, t⟩
      have T7 := Lib.hid (T6.out.trans t)
      clear t
      go_wp2_with fail
      refine (hCh _ T7.out).mono ?_
      rintro e u ⟨rfl, t⟩
      have T8 := Lib.hid (T7.out.trans t)
      clear t
      go_wp2_with fail
      refine (hAc _ T8.out).mono ?_
      rintro e u ⟨rfl, t⟩
      have T9 := Lib.hid (T8.out.trans t)
      clear t
      go_wp2_with fail
      refine (hP _ T9.out).mono ?_
      rintro e u ⟨rfl, t⟩
      have T10 := Lib.hid (T9.out.trans t)
      clear t
      go_wp2_with fail
      refine (hAP _ T10.out).mono ?_
      rintro e u ⟨rfl, t⟩
      have T11 := Lib.hid (T10.out.trans t)
      clear t
      go_wp2_with fail
      go_ret
      exact ⟨rfl, T11.out⟩
set_option maxRecDepth 100000 in
set_option maxHeartbeats 16000000 in
theorem order_walk0 {w : World} {v0 v1 v2 : Value} {SA SB SC SP : ByteArray} {dab lab lba lbc lac : Bool} 
    (hW : Gives w 20 #[] (.bool true)) (n0 : Gives w 9 #[v0, .int .i64 0] (.string SA)) (n1 : Gives w 9 #[v1, .int .i64 0] (.string SB)) (n2 : Gives w 9 #[v2, .int .i64 0] (.string SC))
    (hAA : Gives w 18 #[.string SA, .string SA] (.bool false)) (hAB : Gives w 18 #[.string SA, .string SB] (.bool lab)) (hBA : Gives w 18 #[.string SB, .string SA] (.bool lba))
    (hBC : Gives w 18 #[.string SB, .string SC] (.bool lbc)) (hAC : Gives w 18 #[.string SA, .string SC] (.bool lac))
    (hd : (SA.toList == SB.toList) = dab) (hxor : (lab != lba) = !dab) (hirr : dab = true → lab = false) (htr : lab = true → lbc = true → lac = true)
    (hP : Gives w 16 #[.string SA] (.string SP)) (hCh : Gives w 14 #[.string SA] (.bool false)) (hAc : Gives w 12 #[.string SA] (.bool true))
    (hPe : SP = ⟨#[]⟩ ∨ (SP.toList == [] ) = false ∧ Gives w 18 #[.string SP, .string SA] (.bool true) ∧ Gives w 12 #[.string SP] (.bool true)) :
    Calls Tryz.prog 7 #[.agg #[v0, v1, v2], .bool false] w fun e w' => e = .returned (.bool true) ∧ Turn Nn w w' := by
  obtain ⟨w1, e1⟩ : ∃ w1, w.alloc (.cells #[v0, v1, v2] 47) = w1 := ⟨_, rfl⟩
  obtain ⟨b1, t1⟩ := alloc1 e1
  obtain ⟨q, hq⟩ : ∃ q, w.heap.size = q := ⟨_, rfl⟩
  rw [hq] at b1
  have CEL : Hid (∀ u, Turn Nn w1 u → Cells3 q v0 v1 v2 u) := Lib.hid (fun u t => ⟨cell_turn t (cell_blk (o := 0) b1), cell_turn t (cell_blk (o := 1) b1), cell_turn t (cell_blk (o := 2) b1)⟩)
  have T1 := Lib.hid t1
  have HD := Lib.hid hd
  clear b1 t1
  go_enter Tryz.func7, Tryz.ntmps7
  go_wp2_with fail
  refine (hW _ T1.out).mono ?_
  rintro e w2 ⟨rfl, t2⟩
  have T2 := Lib.hid (T1.out.trans t2)
  have K2 := Lib.hid t2
  clear t2
  go_upto_region 6 with (fail)
  refine held_begin (Cells3 q v0 v1 v2) (by kernel_rfl) ?_
  have C0 : Hid (Cells3 q v0 v1 v2 w2.drew) := Lib.hid (CEL.out _ (K2.out.trans (Turn.refl Nn w2).drew))
  have U0 : Hid (Turn Nn w w2.drew) := Lib.hid (T2.out.trans (Turn.refl Nn w2).drew)
  generalize w2.drew = wd at C0 U0 ⊢
  refine held_take 0 ?_ rfl (by kernel_rfl) (by kernel_rfl) (by kernel_rfl) (fun _ _ _ h => h) (Or.inl ⟨by kernel_rfl, ?_⟩) C0.out ?_
  rotate_left 1
  · intro u hu; obtain ⟨y0, y1, y2⟩ := hu; go_simp; first | done | with_reducible rfl
  try simp only [Act.put, nA, nB, nC, nD, nE, nF]
  refine held_take 1 ?_ rfl (by kernel_rfl) (by kernel_rfl) (by kernel_rfl) (fun _ _ _ h => h) (Or.inl ⟨by kernel_rfl, ?_⟩) C0.out ?_
  rotate_left 1
  · intro u hu; obtain ⟨y0, y1, y2⟩ := hu; go_simp; first | done | with_reducible rfl
  try simp only [Act.put, nA, nB, nC, nD, nE, nF]
  refine held_take 2 ?_ rfl (by kernel_rfl) (by kernel_rfl) (by kernel_rfl) (fun _ _ _ h => h) (Or.inl ⟨by kernel_rfl, ?_⟩) C0.out ?_
  rotate_left 1
  · intro u hu; obtain ⟨y0, y1, y2⟩ := hu; go_simp; first | done | with_reducible rfl
  try simp only [Act.put, nA, nB, nC, nD, nE, nF]
  refine held_take 4 ?_ rfl (by kernel_rfl) (by kernel_rfl) (by kernel_rfl) (fun _ _ _ h => h) (Or.inl ⟨by kernel_rfl, ?_⟩) C0.out ?_
  rotate_left 1
  · intro u hu; obtain ⟨y0, y1, y2⟩ := hu; go_simp; first | done | with_reducible rfl
  try simp only [Act.put, nA, nB, nC, nD, nE, nF]
  refine held_take 5 ?_ rfl (by kernel_rfl) (by kernel_rfl) (by kernel_rfl) (fun _ _ _ h => h) (Or.inl ⟨by kernel_rfl, ?_⟩) C0.out ?_
  rotate_left 1
  · intro u hu; obtain ⟨y0, y1, y2⟩ := hu; go_simp; first | done | with_reducible rfl
  try simp only [Act.put, nA, nB, nC, nD, nE, nF]
  refine held_take 6 ?_ rfl (by kernel_rfl) (by kernel_rfl) (by kernel_rfl) (fun _ _ _ h => h) (Or.inl ⟨by kernel_rfl, ?_⟩) C0.out ?_
  rotate_left 1
  · intro u hu; obtain ⟨y0, y1, y2⟩ := hu; go_simp; first | done | with_reducible rfl
  try simp only [Act.put, nA, nB, nC, nD, nE, nF]
  refine held_take 8 ?_ rfl (by kernel_rfl) (by kernel_rfl) (by kernel_rfl) (fun _ _ _ h => h) (Or.inl ⟨by kernel_rfl, ?_⟩) C0.out ?_
  rotate_left 1
  · intro u hu; obtain ⟨y0, y1, y2⟩ := hu; go_simp; first | done | with_reducible rfl
  try simp only [Act.put, nA, nB, nC, nD, nE, nF]
  refine held_take 9 ?_ rfl (by kernel_rfl) (by kernel_rfl) (by kernel_rfl) (fun _ _ _ h => h) (Or.inl ⟨by kernel_rfl, ?_⟩) C0.out ?_
  rotate_left 1
  · intro u hu; obtain ⟨y0, y1, y2⟩ := hu; go_simp; first | done | with_reducible rfl
  try simp only [Act.put, nA, nB, nC, nD, nE, nF]
  refine held_take 10 ?_ rfl (by kernel_rfl) (by kernel_rfl) (by kernel_rfl) (fun _ _ _ h => h) (Or.inl ⟨by kernel_rfl, ?_⟩) C0.out ?_
  rotate_left 1
  · intro u hu; obtain ⟨y0, y1, y2⟩ := hu; go_simp; first | done | with_reducible rfl
  try simp only [Act.put, nA, nB, nC, nD, nE, nF]
  refine held_call 3 (by kernel_rfl) rfl (by kernel_rfl) (by first | rfl | go_simp) (n0 _ U0.out) ?_ (fun c u h => by cases h.1) (fun u h => by cases h.1)
  rintro v u ⟨he, t⟩
  cases he
  have U1 := Lib.hid (U0.out.trans t)
  have C1 := cells3_turn C0 t
  clear t
  refine ⟨C1.out, ?_⟩
  try simp only [Act.put, nA, nB, nC, nD, nE, nF]
  refine held_call 7 (by kernel_rfl) rfl (by kernel_rfl) (by first | rfl | go_simp) (n1 _ U1.out) ?_ (fun c u h => by cases h.1) (fun u h => by cases h.1)
  rintro v u ⟨he, t⟩
  cases he
  have U2 := Lib.hid (U1.out.trans t)
  have C2 := cells3_turn C1 t
  clear t
  refine ⟨C2.out, ?_⟩
  try simp only [Act.put, nA, nB, nC, nD, nE, nF]
  refine held_call 11 (by kernel_rfl) rfl (by kernel_rfl) (by first | rfl | go_simp) (n2 _ U2.out) ?_ (fun c u h => by cases h.1) (fun u h => by cases h.1)
  rintro v u ⟨he, t⟩
  cases he
  have T3 := Lib.hid (U2.out.trans t)
  have C3 := cells3_turn C2 t
  clear t
  refine ⟨C3.out, ?_⟩
  try simp only [Act.put, nA, nB, nC, nD, nE, nF]
  refine held_take 12 ?_ rfl (by kernel_rfl) (by kernel_rfl) (by kernel_rfl) (fun _ _ _ h => h) (Or.inl ⟨by kernel_rfl, ?_⟩) C3.out ?_
  rotate_left 1
  · intro u hu; obtain ⟨y0, y1, y2⟩ := hu; go_simp; first | done | with_reducible rfl
  try simp only [Act.put, nA, nB, nC, nD, nE, nF]
  refine held_take 13 ?_ rfl (by kernel_rfl) (by kernel_rfl) (by kernel_rfl) (fun _ _ _ h => h) (Or.inl ⟨by kernel_rfl, ?_⟩) C3.out ?_
  rotate_left 1
  · intro u hu; obtain ⟨y0, y1, y2⟩ := hu; go_simp; first | done | with_reducible rfl
  try simp only [Act.put, nA, nB, nC, nD, nE, nF]
  refine held_take 14 ?_ rfl (by kernel_rfl) (by kernel_rfl) (by kernel_rfl) (fun _ _ _ h => h) (Or.inl ⟨by kernel_rfl, ?_⟩) C3.out ?_
  rotate_left 1
  · intro u hu; obtain ⟨y0, y1, y2⟩ := hu; go_simp; first | done | with_reducible rfl
  try simp only [Act.put, nA, nB, nC, nD, nE, nF]
  refine wpAnyH_done (by kernel_rfl) ?_ _
  clear C0 C1 C2 C3 U0 U1 U2 K2 T1 T2 CEL n0 n1 n2 hW
  go_wp2_with fail
  refine (hAA _ T3.out).mono ?_
  rintro e u ⟨rfl, t⟩
  have T4 := Lib.hid (T3.out.trans t)
  clear t
  go_wp2_with fail
  cases lab with
  | true =>
    have h2 := tri1 hxor hirr
    obtain ⟨rfl, rfl⟩ := h2
    cases lbc with
    | true =>
      obtain rfl : lac = true := htr rfl rfl
      clear htr hxor hirr
      refine (hAB _ T4.out).mono ?_
      rintro e u ⟨rfl, t⟩
      have T5 := Lib.hid (T4.out.trans t)
      clear t
      go_wp2_with fail
      refine (hBA _ T5.out).mono ?_
      rintro e u ⟨rfl, t⟩
      have T6 := Lib.hid (T5.out.trans t)
      clear t
      go_wp2_with fail
      refine (hAB _ T6.out).mono ?_
      rintro e u ⟨rfl, t⟩
      have T7 := Lib.hid (T6.out.trans t)
      clear t
      go_wp2_with fail
      refine (hBC _ T7.out).mono ?_
      rintro e u ⟨rfl, t⟩
      have T8 := Lib.hid (T7.out.trans t)
      clear t
      go_wp2_with fail
      refine (hAC _ T8.out).mono ?_
      rintro e u ⟨rfl, t⟩
      have T9 := Lib.hid (T8.out.trans t)
      clear t
      go_wp2_with fail
      rcases hPe with rfl | ⟨hPe, hPA, hPAc⟩
      · refine (hP _ T9.out).mono ?_
        rintro e u ⟨rfl, t⟩
        have T10 := Lib.hid (T9.out.trans t)
        clear t
        go_wp2_with fail
        refine (hAc _ T10.out).mono ?_
        rintro e u ⟨rfl, t⟩
        have T11 := Lib.hid (T10.out.trans t)
        clear t
        go_wp2_with fail
        refine (hCh _ T11.out).mono ?_
        rintro e u ⟨rfl, t⟩
        have T12 := Lib.hid (T11.out.trans t)
        clear t
        go_wp2_with fail
        go_ret
        exact ⟨rfl, T12.out⟩
      · refine (hP _ T9.out).mono ?_
        rintro e u ⟨rfl, t⟩
        have T10 := Lib.hid (T9.out.trans t)
        clear t
        go_wp2_with fail
        refine (hAc _ T10.out).mono ?_
        rintro e u ⟨rfl, t⟩
        have T11 := Lib.hid (T10.out.trans t)
        clear t
        go_wp2_with fail
        refine (hCh _ T11.out).mono ?_
        rintro e u ⟨rfl, t⟩
        have T12 := Lib.hid (T11.out.trans t)
        clear t
        go_wp2_with fail
        refine (hPA _ T12.out).mono ?_
        rintro e u ⟨rfl, t⟩
        have T13 := Lib.hid (T12.out.trans t)
        clear t
        go_wp2_with fail
        refine (hPAc _ T13.out).mono ?_
        rintro e u ⟨rfl, t⟩
        have T14 := Lib.hid (T13.out.trans t)
        clear t
        go_wp2_with fail
        go_ret
        exact ⟨rfl, T14.out⟩
    | false =>
      clear htr hxor hirr
      refine (hAB _ T4.out).mono ?_
      rintro e u ⟨rfl, t⟩
      have T5 := Lib.hid (T4.out.trans t)
      clear t
      go_wp2_with fail
      refine (hBA _ T5.out).mono ?_
      rintro e u ⟨rfl, t⟩
      have T6 := Lib.hid (T5.out.trans t)
      clear t
      go_wp2_with fail
      refine (hAB _ T6.out).mono ?_
      rintro e u ⟨rfl, t⟩
      have T7 := Lib.hid (T6.out.trans t)
      clear t
      go_wp2_with fail
      refine (hBC _ T7.out).mono ?_
      rintro e u ⟨rfl, t⟩
      have T8 := Lib.hid (T7.out.trans t)
      clear t
      go_wp2_with fail
      rcases hPe with rfl | ⟨hPe, hPA, hPAc⟩
      · refine (hP _ T8.out).mono ?_
        rintro e u ⟨rfl, t⟩
        have T9 := Lib.hid (T8.out.trans t)
        clear t
        go_wp2_with fail
        refine (hAc _ T9.out).mono ?_
        rintro e u ⟨rfl, t⟩
        have T10 := Lib.hid (T9.out.trans t)
        clear t
        go_wp2_with fail
        refine (hCh _ T10.out).mono ?_
        rintro e u ⟨rfl, t⟩
        have T11 := Lib.hid (T10.out.trans t)
        clear t
        go_wp2_with fail
        go_ret
        exact ⟨rfl, T11.out⟩
      · refine (hP _ T8.out).mono ?_
        rintro e u ⟨rfl, t⟩
        have T9 := Lib.hid (T8.out.trans t)
        clear t
        go_wp2_with fail
        refine (hAc _ T9.out).mono ?_
        rintro e u ⟨rfl, t⟩
        have T10 := Lib.hid (T9.out.trans t)
        clear t
        go_wp2_with fail
        refine (hCh _ T10.out).mono ?_
        rintro e u ⟨rfl, t⟩
        have T11 := Lib.hid (T10.out.trans t)
        clear t
        go_wp2_with fail
        refine (hPA _ T11.out).mono ?_
        rintro e u ⟨rfl, t⟩
        have T12 := Lib.hid (T11.out.trans t)
        clear t
        go_wp2_with fail
        refine (hPAc _ T12.out).mono ?_
        rintro e u ⟨rfl, t⟩
        have T13 := Lib.hid (T12.out.trans t)
        clear t
        go_wp2_with fail
        go_ret
        exact ⟨rfl, T13.out⟩
  | false =>
    obtain rfl := tri2 hxor
    cases dab with
    | true =>
      clear htr hxor hirr
      refine (hAB _ T4.out).mono ?_
      rintro e u ⟨rfl, t⟩
      have T5 := Lib.hid (T4.out.trans t)
      clear t
      go_wp2_with fail
      refine (hBA _ T5.out).mono ?_
      rintro e u ⟨rfl, t⟩
      have T6 := Lib.hid (T5.out.trans t)
      clear t
      go_wp2_with fail
      refine (hAB _ T6.out).mono ?_
      rintro e u ⟨rfl, t⟩
      have T7 := Lib.hid (T6.out.trans t)
      clear t
      go_wp2_with fail
      rcases hPe with rfl | ⟨hPe, hPA, hPAc⟩
      · refine (hP _ T7.out).mono ?_
        rintro e u ⟨rfl, t⟩
        have T8 := Lib.hid (T7.out.trans t)
        clear t
        go_wp2_with fail
        refine (hAc _ T8.out).mono ?_
        rintro e u ⟨rfl, t⟩
        have T9 := Lib.hid (T8.out.trans t)
        clear t
        go_wp2_with fail
        refine (hCh _ T9.out).mono ?_
        rintro e u ⟨rfl, t⟩
        have T10 := Lib.hid (T9.out.trans t)
        clear t
        go_wp2_with fail
        go_ret
        exact ⟨rfl, T10.out⟩
      · refine (hP _ T7.out).mono ?_
        rintro e u ⟨rfl, t⟩
        have T8 := Lib.hid (T7.out.trans t)
        clear t
        go_wp2_with fail
        refine (hAc _ T8.out).mono ?_
        rintro e u ⟨rfl, t⟩
        have T9 := Lib.hid (T8.out.trans t)
        clear t
        go_wp2_with fail
        refine (hCh _ T9.out).mono ?_
        rintro e u ⟨rfl, t⟩
        have T10 := Lib.hid (T9.out.trans t)
        clear t
        go_wp2_with fail
        refine (hPA _ T10.out).mono ?_
        rintro e u ⟨rfl, t⟩
        have T11 := Lib.hid (T10.out.trans t)
        clear t
        go_wp2_with fail
        refine (hPAc _ T11.out).mono ?_
        rintro e u ⟨rfl, t⟩
        have T12 := Lib.hid (T11.out.trans t)
        clear t
        go_wp2_with fail
        go_ret
        exact ⟨rfl, T12.out⟩
    | false =>
      clear htr hxor hirr
      refine (hAB _ T4.out).mono ?_
      rintro e u ⟨rfl, t⟩
      have T5 := Lib.hid (T4.out.trans t)
      clear t
      go_wp2_with fail
      refine (hBA _ T5.out).mono ?_
      rintro e u ⟨rfl, t⟩
      have T6 := Lib.hid (T5.out.trans t)
      clear t
      go_wp2_with fail
      refine (hAB _ T6.out).mono ?_
      rintro e u ⟨rfl, t⟩
      have T7 := Lib.hid (T6.out.trans t)
      clear t
      go_wp2_with fail
      rcases hPe with rfl | ⟨hPe, hPA, hPAc⟩
      · refine (hP _ T7.out).mono ?_
        rintro e u ⟨rfl, t⟩
        have T8 := Lib.hid (T7.out.trans t)
        clear t
        go_wp2_with fail
        refine (hAc _ T8.out).mono ?_
        rintro e u ⟨rfl, t⟩
        have T9 := Lib.hid (T8.out.trans t)
        clear t
        go_wp2_with fail
        refine (hCh _ T9.out).mono ?_
        rintro e u ⟨rfl, t⟩
        have T10 := Lib.hid (T9.out.trans t)
        clear t
        go_wp2_with fail
        go_ret
        exact ⟨rfl, T10.out⟩
      · refine (hP _ T7.out).mono ?_
        rintro e u ⟨rfl, t⟩
        have T8 := Lib.hid (T7.out.trans t)
        clear t
        go_wp2_with fail
        refine (hAc _ T8.out).mono ?_
        rintro e u ⟨rfl, t⟩
        have T9 := Lib.hid (T8.out.trans t)
        clear t
        go_wp2_with fail
        refine (hCh _ T9.out).mono ?_
        rintro e u ⟨rfl, t⟩
        have T10 := Lib.hid (T9.out.trans t)
        clear t
        go_wp2_with fail
        refine (hPA _ T10.out).mono ?_
        rintro e u ⟨rfl, t⟩
        have T11 := Lib.hid (T10.out.trans t)
        clear t
        go_wp2_with fail
        refine (hPAc _ T11.out).mono ?_
        rintro e u ⟨rfl, t⟩
        have T12 := Lib.hid (T11.out.trans t)
        clear t
        go_wp2_with fail
        go_ret
        exact ⟨rfl, T12.out⟩
end Go.Proofs.YtpbjblbeepbklaaGreatDoor
