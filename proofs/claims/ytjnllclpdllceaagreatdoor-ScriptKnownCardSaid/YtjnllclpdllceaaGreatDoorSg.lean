/- The words of a line of numbers. -/
import Derived.Test.YtjnllclpdllceaaGreatDoorSf
namespace Go.Proofs.YtjnllclpdllceaaGreatDoor
set_option linter.unusedSimpArgs false
set_option linter.unusedVariables false
open Go.RowKit Go.Shelf

/-- A number fits an int. -/
def Fit (n : Int) : Prop := -9223372036854775808 ≤ n ∧ n ≤ 9223372036854775807

theorem itoa_any {n : Int} (hn : Fit n) {w : World} (hl : Laid w) :
    Calls Tryz.prog 49 #[.int .i64 n] w fun e w' => e = .returned (.string ⟨(Lib.itoa n).toArray⟩) ∧ Turn Nn w w' := by
  refine (Tryz.strconv_Itoa n hn.1 hn.2 w hl.pow).mono ?_
  rintro e w' ⟨rfl, k, os, rfl⟩
  exact ⟨rfl, ((Turn.refl Nn w).drewN k).grow os⟩

set_option maxHeartbeats 1000000 in
theorem words1 (s : ByteArray) {n : Int} (hn : Fit n) {w : World} (hl : Laid w) (p : Nat) (h0 : w.cell? ⟨p, 0, none⟩ = some (.int .i64 n)) (hs : (s.size : Int) ≤ 1000) (hi : (Lib.itoa n).length ≤ 1000) :
    Calls Tryz.prog 24 #[.string s, .slice (some ⟨p, 0, none⟩) 1 1] w fun e w' => e = .returned (.string (s ++ ((⟨#[32]⟩ : ByteArray) ++ ⟨(Lib.itoa n).toArray⟩))) ∧ Turn Nn w w' := by
  have HI := Lib.hid (itoa_any hn hl)
  clear hl hn
  have e1 : ∀ w, (Op.stringOp .add ⟨#[32]⟩ ⟨(Lib.itoa n).toArray⟩).run Tryz.prog w = .ok (.string (⟨#[32]⟩ ++ ⟨(Lib.itoa n).toArray⟩)) w := fun w => by
    rw [run_string_add w _ _ (by decide) (by simp [ByteArray.size]; omega)]
  have e2 : ∀ w, (Op.stringOp .add s (⟨#[32]⟩ ++ ⟨(Lib.itoa n).toArray⟩)).run Tryz.prog w = .ok (.string (s ++ (⟨#[32]⟩ ++ ⟨(Lib.itoa n).toArray⟩))) w := fun w => by
    rw [run_string_add w _ _ (by omega) (by rw [ByteArray.size_append]; simp [ByteArray.size]; omega)]
  clear hs hi
  obtain ⟨T1, hT1⟩ : ∃ T1 : ByteArray, ⟨(Lib.itoa n).toArray⟩ = T1 := ⟨_, rfl⟩
  rw [hT1] at HI e1 e2 ⊢
  obtain ⟨T2, hT2⟩ : ∃ T2 : ByteArray, ⟨#[32]⟩ ++ T1 = T2 := ⟨_, rfl⟩
  rw [hT2] at e1 e2 ⊢
  clear hT1 hT2
  go_enter Tryz.func24, Tryz.ntmps24
  go_wp2_with fail
  refine wp_loop_rounds 2 ?_
  rw [rounds_succ]
  go_wp2_with fail
  refine HI.out.mono ?_
  rintro e w1 ⟨rfl, ht⟩
  have HT := Lib.hid ht
  clear ht
  go_wp2_with fail
  rw [rounds_succ]
  go_wp2
  go_ret
  exact ⟨rfl, HT.out⟩

theorem add_run (a : ByteArray) (b : ByteArray) (ha : (a.size : Int) ≤ 8388608) (hb : (b.size : Int) ≤ 8388608) (w : World) : (Op.stringOp .add a b).run Tryz.prog w = .ok (.string (a ++ b)) w := run_string_add w a b ha hb

set_option maxHeartbeats 1000000 in
theorem words3 (s t1 t2 t3 : ByteArray) {n1 n2 n3 : Int} (f1 : Fit n1) (f2 : Fit n2) (f3 : Fit n3) (e1 : t1 = ⟨(Lib.itoa n1).toArray⟩) (e2 : t2 = ⟨(Lib.itoa n2).toArray⟩) (e3 : t3 = ⟨(Lib.itoa n3).toArray⟩)
    {w : World} (hl : Laid w) (p : Nat) (h0 : w.cell? ⟨p, 0, none⟩ = some (.int .i64 n1)) (h1 : w.cell? ⟨p, 1, none⟩ = some (.int .i64 n2)) (h2 : w.cell? ⟨p, 2, none⟩ = some (.int .i64 n3))
    (hs : s.size ≤ 1000) (i1 : t1.size ≤ 1000) (i2 : t2.size ≤ 1000) (i3 : t3.size ≤ 1000) :
    Calls Tryz.prog 24 #[.string s, .slice (some ⟨p, 0, none⟩) 3 3] w fun e w' => e = .returned (.string (s ++ ((⟨#[32]⟩ : ByteArray) ++ t1) ++ ((⟨#[32]⟩ : ByteArray) ++ t2) ++ ((⟨#[32]⟩ : ByteArray) ++ t3))) ∧ Turn Nn w w' := by
  have z : (⟨#[32]⟩ : ByteArray).size = 1 := rfl
  have HI := Lib.hid (itoa_any f1 hl)
  have HL := Lib.hid hl
  rw [← e1] at HI
  clear hl
  obtain ⟨u1, k1⟩ : ∃ u : ByteArray, ⟨#[32]⟩ ++ t1 = u := ⟨_, rfl⟩
  obtain ⟨u2, k2⟩ : ∃ u : ByteArray, ⟨#[32]⟩ ++ t2 = u := ⟨_, rfl⟩
  obtain ⟨u3, k3⟩ : ∃ u : ByteArray, ⟨#[32]⟩ ++ t3 = u := ⟨_, rfl⟩
  have l1 : u1.size ≤ 1001 := by rw [← k1, ByteArray.size_append]; omega
  have l2 : u2.size ≤ 1001 := by rw [← k2, ByteArray.size_append]; omega
  have l3 : u3.size ≤ 1001 := by rw [← k3, ByteArray.size_append]; omega
  have a1 : ∀ w, (Op.stringOp .add ⟨#[32]⟩ t1).run Tryz.prog w = .ok (.string u1) w := fun w => by rw [add_run _ _ (by decide) (by omega), k1]
  have a2 : ∀ w, (Op.stringOp .add ⟨#[32]⟩ t2).run Tryz.prog w = .ok (.string u2) w := fun w => by rw [add_run _ _ (by decide) (by omega), k2]
  have a3 : ∀ w, (Op.stringOp .add ⟨#[32]⟩ t3).run Tryz.prog w = .ok (.string u3) w := fun w => by rw [add_run _ _ (by decide) (by omega), k3]
  rw [k1, k2, k3]
  obtain ⟨s1, q1⟩ : ∃ u : ByteArray, s ++ u1 = u := ⟨_, rfl⟩
  have m1 : s1.size ≤ 3000 := by rw [← q1, ByteArray.size_append]; omega
  have b1 : ∀ w, (Op.stringOp .add s u1).run Tryz.prog w = .ok (.string s1) w := fun w => by rw [add_run _ _ (by omega) (by omega), q1]
  rw [q1]
  obtain ⟨s2, q2⟩ : ∃ u : ByteArray, s1 ++ u2 = u := ⟨_, rfl⟩
  have m2 : s2.size ≤ 5000 := by rw [← q2, ByteArray.size_append]; omega
  have b2 : ∀ w, (Op.stringOp .add s1 u2).run Tryz.prog w = .ok (.string s2) w := fun w => by rw [add_run _ _ (by omega) (by omega), q2]
  rw [q2]
  obtain ⟨s3, q3⟩ : ∃ u : ByteArray, s2 ++ u3 = u := ⟨_, rfl⟩
  have b3 : ∀ w, (Op.stringOp .add s2 u3).run Tryz.prog w = .ok (.string s3) w := fun w => by rw [add_run _ _ (by omega) (by omega), q3]
  rw [q3]
  have F2 := Lib.hid f2
  have F3 := Lib.hid f3
  have E2 := Lib.hid e2
  have E3 := Lib.hid e3
  clear k1 k2 k3 q1 q2 q3 m1 m2 l1 l2 l3 hs i1 i2 i3 z f1 f2 f3 e1 e2 e3
  go_enter Tryz.func24, Tryz.ntmps24
  go_wp2_with fail
  refine wp_loop_rounds 4 ?_
  rw [rounds_succ]
  go_wp2_with fail
  refine HI.out.mono ?_
  rintro e w1 ⟨rfl, ht⟩
  have HJ := Lib.hid (itoa_any F2.out (HL.out.turn ht))
  rw [← E2.out] at HJ
  have g1 := cell_turn ht h1
  have g2 := cell_turn ht h2
  have HT := Lib.hid ht
  clear ht HI
  go_wp2_with fail
  rw [rounds_succ]
  go_wp2_with fail
  refine HJ.out.mono ?_
  rintro e w2 ⟨rfl, ht2⟩
  have ht2 := HT.out.trans ht2
  have HK := Lib.hid (itoa_any F3.out (HL.out.turn ht2))
  rw [← E3.out] at HK
  have g3 := cell_turn ht2 h2
  have HT2 := Lib.hid ht2
  clear ht2 HJ
  go_wp2_with fail
  rw [rounds_succ]
  go_wp2_with fail
  refine HK.out.mono ?_
  rintro e w3 ⟨rfl, ht3⟩
  have HT3 := Lib.hid (HT2.out.trans ht3)
  clear ht3 HK
  go_wp2_with fail
  rw [rounds_succ]
  go_wp2
  go_ret
  exact ⟨rfl, HT3.out⟩
end Go.Proofs.YtjnllclpdllceaaGreatDoor
