/- The program's walks: Less. The program's walks: Less. Printed by gen_xh.py. -/
import Derived.Test.YtpbjblbeepbklaaGreatDoorKn
namespace Go.Proofs.YtpbjblbeepbklaaGreatDoor
set_option linter.unusedSimpArgs false
set_option linter.unusedVariables false
section
open Go.RowKit Go.Shelf

def cmpI (x y : Int) : Int := if x < y then -1 else if x > y then 1 else 0
theorem isnan_any (x : Int) (w : World) : Calls Tryz.prog 91 #[.int .i64 x] w fun e w' => e = .returned (.bool false) ∧ w' = w := by
  go_enter Tryz.func91, Tryz.ntmps91
  go_wp2_with fail
  go_ret
  exact ⟨by first | rfl | simp, rfl⟩
theorem cmp_any (x y : Int) (w : World) : Calls Tryz.prog 65 #[.int .i64 x, .int .i64 y] w fun e w' => e = .returned (.int .i64 (cmpI x y)) ∧ w' = w := by
  obtain ⟨c, hc⟩ : ∃ c, cmpI x y = c := ⟨_, rfl⟩
  rw [hc]
  have HC := Lib.hid hc
  clear hc
  go_enter Tryz.func65, Tryz.ntmps65
  go_wp2_with fail
  refine (isnan_any x _).mono ?_
  rintro e w1 ⟨rfl, rfl⟩
  go_wp2_with fail
  refine (isnan_any y _).mono ?_
  rintro e w2 ⟨rfl, rfl⟩
  by_cases h1 : x < y
  · have h := HC.out
    unfold cmpI at h
    rw [if_pos h1] at h
    subst h
    go_wp2_with fail
    go_ret
    exact ⟨rfl, rfl⟩
  · by_cases h2 : x > y
    · have h := HC.out
      unfold cmpI at h
      rw [if_neg h1, if_pos h2] at h
      subst h
      have h3 : y < x := h2
      go_wp2_with fail
      go_ret
      exact ⟨rfl, rfl⟩
    · have h := HC.out
      unfold cmpI at h
      rw [if_neg h1, if_neg h2] at h
      subst h
      have h3 : x = y := by omega
      subst h3
      clear h1 h2
      go_wp2_with fail
      go_ret
      exact ⟨rfl, rfl⟩
/-- What slices.Compare answers. -/
def compL : List Int → List Int → Int
  | [], [] => 0
  | [], _ :: _ => -1
  | _ :: _, [] => 1
  | x :: X, y :: Y => if cmpI x y = 0 then compL X Y else cmpI x y
theorem compL_lt : ∀ (X Y : List Int), (compL X Y < 0) = (ltI X Y = true)
  | [], [] => by simp [compL, ltI, cmpL]
  | [], _ :: _ => by simp [compL, ltI, cmpL]
  | _ :: _, [] => by simp [compL, ltI, cmpL]
  | x :: X, y :: Y => by
    have ih := compL_lt X Y
    unfold ltI at ih ⊢
    unfold compL cmpL
    unfold cmpI
    by_cases h1 : x < y
    · have hn : x ≠ y := by omega
      simp [h1, hn]
    · by_cases h2 : y < x
      · have hn : x ≠ y := by omega
        simp [h1, h2, hn]
      · have hn : x = y := by omega
        simp [hn, ih]
theorem compL_step {X Y : List Int} {k : Nat} (h : k < X.length) (h' : k < Y.length) : compL (X.drop k) (Y.drop k) = if cmpI (X[k]?.getD 0) (Y[k]?.getD 0) = 0 then compL (X.drop (k + 1)) (Y.drop (k + 1)) else cmpI (X[k]?.getD 0) (Y[k]?.getD 0) := by
  rw [List.drop_eq_getElem_cons h, List.drop_eq_getElem_cons h']
  rw [List.getElem?_eq_getElem h, List.getElem?_eq_getElem h']
  rfl
theorem compL_long {X Y : List Int} {k : Nat} (h : k < X.length) (h' : Y.length ≤ k) : compL (X.drop k) (Y.drop k) = 1 := by
  rw [List.drop_eq_getElem_cons h, List.drop_eq_nil_of_le h']
  rfl
theorem compL_end {X Y : List Int} (h : X.length < Y.length) : compL (X.drop X.length) (Y.drop X.length) = -1 := by
  rw [List.drop_length, List.drop_eq_getElem_cons h]
  rfl
theorem compL_same {X Y : List Int} (h : ¬ X.length < Y.length) : compL (X.drop X.length) (Y.drop X.length) = 0 := by
  rw [List.drop_length, List.drop_eq_nil_of_le (by omega)]
  rfl
set_option maxRecDepth 100000 in
set_option maxHeartbeats 8000000 in
theorem scompare_any {X Y : List Int} {b o cx b' o' cy : Nat} {w : World} (hb : X.length ≤ 9000000) (hX : ∀ i, i < X.length → w.cell? ⟨b, o + i, none⟩ = some (.int .i64 (X[i]?.getD 0))) (hY : ∀ i, i < Y.length → w.cell? ⟨b', o' + i, none⟩ = some (.int .i64 (Y[i]?.getD 0))) :
    Calls Tryz.prog 36 #[.slice (some ⟨b, o, none⟩) X.length cx, .slice (some ⟨b', o', none⟩) Y.length cy] w fun e w' => e = .returned (.int .i64 (compL X Y)) ∧ w' = w := by
  have HX := Lib.hid hX
  have HY := Lib.hid hY
  obtain ⟨lx, hlx⟩ : ∃ lx, X.length = lx := ⟨_, rfl⟩
  obtain ⟨ly, hly⟩ : ∃ ly, Y.length = ly := ⟨_, rfl⟩
  obtain ⟨C, hC⟩ : ∃ C, compL X Y = C := ⟨_, rfl⟩
  have HLX := Lib.hid hlx
  have HLY := Lib.hid hly
  have HC := Lib.hid hC
  rw [hlx] at hb
  rw [hlx, hly, hC]
  clear hlx hly hC hX hY
  go_enter Tryz.func36, Tryz.ntmps36
  go_wp2_with fail
  go_loopw [5, 6, 7, 8, 11] (fun _ _ _ _ i wr => ∃ k : Nat, k ≤ lx ∧ i = .int .i64 k ∧ compL (X.drop k) (Y.drop k) = C ∧ wr = w) (fun _ _ _ _ i _ => lx - (intOf i).toNat)
  case atStart => exact ⟨0, by omega, rfl, HC.out, rfl⟩
  case round =>
    obtain ⟨k, hk, rfl, hc, rfl⟩ := hrel
    have HK := Lib.hid hc
    clear hc
    by_cases h1 : k < lx
    · have x0 := HX.out k (by rw [HLX.out]; exact h1)
      obtain ⟨x, hx⟩ : ∃ x, X[k]?.getD 0 = x := ⟨_, rfl⟩
      have HXX := Lib.hid hx
      rw [hx] at x0
      clear hx
      by_cases h2 : k < ly
      · have y0 := HY.out k (by rw [HLY.out]; exact h2)
        obtain ⟨y, hy⟩ : ∃ y, Y[k]?.getD 0 = y := ⟨_, rfl⟩
        have HYY := Lib.hid hy
        rw [hy] at y0
        clear hy
        have HST := Lib.hid (compL_step (X := X) (Y := Y) (k := k) (by rw [HLX.out]; exact h1) (by rw [HLY.out]; exact h2))
        obtain ⟨c, hc⟩ : ∃ c, cmpI x y = c := ⟨_, rfl⟩
        have HCC := Lib.hid hc
        have HP := fun w => Lib.hid (cmp_any x y w)
        simp only [hc] at HP
        clear hc
        by_cases h3 : c = 0
        · subst h3
          go_wp2_with fail
          refine (HP _).out.mono ?_
          rintro e w2 ⟨rfl, rfl⟩
          go_wp2_with fail
          go_roundw
          case rel => exact ⟨k + 1, by omega, by go_num, by rw [← HK.out, HST.out, HXX.out, HYY.out, if_pos HCC.out], by first | rfl | trivial⟩
          case measure => simp [intOf]; omega
        · go_wp2_with fail
          refine (HP _).out.mono ?_
          rintro e w2 ⟨rfl, rfl⟩
          go_wp2_with fail
          go_ret
          refine ⟨?_, rfl⟩
          rw [← HK.out, HST.out, HXX.out, HYY.out, HCC.out, if_neg h3]
          try rfl
      · have HE := Lib.hid (compL_long (X := X) (Y := Y) (k := k) (by rw [HLX.out]; exact h1) (by rw [HLY.out]; omega))
        have h3 : ly ≤ k := by omega
        go_wp2_with fail
        go_ret
        refine ⟨?_, rfl⟩
        rw [← HK.out, HE.out]
        try rfl
    · obtain rfl : k = lx := by omega
      by_cases h2 : k < ly
      · have HE := Lib.hid (compL_end (X := X) (Y := Y) (by rw [HLX.out, HLY.out]; exact h2))
        go_wp2_with fail
        go_ret
        refine ⟨?_, rfl⟩
        rw [← HK.out, ← HLX.out, HE.out]
        try rfl
      · have HE := Lib.hid (compL_same (X := X) (Y := Y) (by rw [HLX.out, HLY.out]; exact h2))
        go_wp2_with fail
        go_ret
        refine ⟨?_, rfl⟩
        rw [← HK.out, ← HLX.out, HE.out]
        try rfl
end
section
open Go.RowKit Go.Shelf

theorem keyL_len {s : Bs} {X : List Int} (h : keyL s = some X) : X.length ≤ s.length + 5 := by
  unfold keyL at h
  cases hb : bootN s with
  | some k => rw [hb] at h; cases h; simp
  | none =>
    rw [hb] at h
    obtain ⟨p, hp, rfl⟩ := Option.map_eq_some_iff.1 h
    obtain ⟨A, k⟩ := p
    obtain ⟨hs, h1, h2, _⟩ := madeN_some.1 hp
    have hl := partsL_len (partsL_some.2 ⟨rfl, h1, h2⟩)
    rw [hs]
    simp
    omega
def lessO (x1 y1 x2 y2 : Option (List Int)) : Bool := match x1, y1 with
  | some X, some Y => ltI X Y
  | _, _ => match x2, y2 with
    | some X, some Y => ltI X Y
    | _, _ => false
theorem lessL_eq (a b : Bs) : lessL a b = lessO ((partsL a).map (·.map Int.ofNat)) ((partsL b).map (·.map Int.ofNat)) (keyL a) (keyL b) := by
  unfold lessL lessO
  cases partsL a <;> cases partsL b <;> rfl
theorem IntsOr.turn {w w' : World} {v : Value} {x : Option (List Int)} (h : IntsOr w v x) (t : Turn Nn w w') : IntsOr w' v x := by
  cases x with
  | none => exact h
  | some L => exact IntSl.turn h t
theorem parts_len {a : Bs} {X : List Int} (h : (partsL a).map (·.map Int.ofNat) = some X) : X.length ≤ a.length + 1 := by
  obtain ⟨A, hA, rfl⟩ := Option.map_eq_some_iff.1 h
  rw [List.length_map]
  exact partsL_len hA
set_option maxRecDepth 100000 in
set_option maxHeartbeats 16000000 in
theorem less_any {a b : Bs} (ha : a.length ≤ 4000000) (hb : b.length ≤ 4000000) {w : World} (hw : Laid w) :
    Calls Tryz.prog 18 #[.string (BT a), .string (BT b)] w fun e w' => e = .returned (.bool (lessL a b)) ∧ Turn Nn w w' := by
  have HW := Lib.hid hw
  have HpA := fun w (h : Laid w) => Lib.hid (parts_any ha h)
  have HpB := fun w (h : Laid w) => Lib.hid (parts_any hb h)
  have HkA := fun w (h : Laid w) => Lib.hid (key_any ha h)
  have HkB := fun w (h : Laid w) => Lib.hid (key_any hb h)
  have L1 := fun X (h : (partsL a).map (·.map Int.ofNat) = some X) => Lib.hid (show X.length ≤ 9000000 from by have := parts_len h; omega)
  have L2 := fun X (h : keyL a = some X) => Lib.hid (show X.length ≤ 9000000 from by have := keyL_len h; omega)
  rw [lessL_eq]
  obtain ⟨A, hA⟩ : ∃ A, BT a = A := ⟨_, rfl⟩
  obtain ⟨B, hB⟩ : ∃ B, BT b = B := ⟨_, rfl⟩
  obtain ⟨x1, hx1⟩ : ∃ x, (partsL a).map (·.map Int.ofNat) = x := ⟨_, rfl⟩
  obtain ⟨y1, hy1⟩ : ∃ x, (partsL b).map (·.map Int.ofNat) = x := ⟨_, rfl⟩
  obtain ⟨x2, hx2⟩ : ∃ x, keyL a = x := ⟨_, rfl⟩
  obtain ⟨y2, hy2⟩ : ∃ x, keyL b = x := ⟨_, rfl⟩
  simp only [hx1, hA] at HpA
  simp only [hy1, hB] at HpB
  simp only [hx2, hA] at HkA
  simp only [hy2, hB] at HkB
  simp only [hx1] at L1
  simp only [hx2] at L2
  rw [hA, hB, hx1, hx2, hy1, hy2]
  obtain ⟨Z, hZ⟩ : ∃ Z, lessO x1 y1 x2 y2 = Z := ⟨_, rfl⟩
  rw [hZ]
  have HZ := Lib.hid hZ
  clear hx1 hx2 hy1 hy2 hA hB hZ hw ha hb
  obtain ⟨w1, e1⟩ : ∃ w1, w.alloc (.cells #[.func (.func 29) #[] #[], .func (.func 32) #[] #[]] 55) = w1 := ⟨_, rfl⟩
  obtain ⟨b1, t1⟩ := alloc1 e1
  obtain ⟨n, hn⟩ : ∃ n, w.heap.size = n := ⟨_, rfl⟩
  rw [hn] at b1
  have HB := Lib.hid b1
  have T1 := Lib.hid t1
  have f0 : w1.cell? ⟨n, 0, none⟩ = some (.func (.func 29) #[] #[]) := cell_blk b1
  clear b1 t1
  go_enter Tryz.func18, Tryz.ntmps18
  go_wp2_with fail
  refine wp_loop_rounds 3 ?_
  rw [rounds_succ]
  go_wp2_with fail
  refine (HpA _ (HW.out.turn T1.out)).out.mono ?_
  rintro e wa ⟨va, rfl, ia, ta⟩
  have TAp := Lib.hid (T1.out.trans ta)
  have IAp := Lib.hid ia
  have TQ0 := Lib.hid ta
  clear ia ta
  go_wp2_with fail
  refine (HpB _ (HW.out.turn TAp.out)).out.mono ?_
  rintro e wb ⟨vb, rfl, ib, tb⟩
  have TBp := Lib.hid (TAp.out.trans tb)
  have IBp := Lib.hid ib
  have TQa := Lib.hid (TQ0.out.trans tb)
  have ICp := Lib.hid (IAp.out.turn tb)
  clear ib tb
  have TQ : Hid (Turn Nn w1 wb) := Lib.hid (TQa.out)
  clear f0
  cases x1 with
  | none =>
    obtain rfl : va = .slice none 0 0 := ICp.out
    go_wp2_with fail
    rw [rounds_succ]
    have f1 : wb.cell? ⟨n, 1, none⟩ = some (.func (.func 32) #[] #[]) := cell_turn (TQ.out) (cell_blk (o := 1) HB.out)
    go_wp2_with fail
    refine (HkA _ (HW.out.turn TBp.out)).out.mono ?_
    rintro e wa ⟨va, rfl, ia, ta⟩
    have TAk := Lib.hid (TBp.out.trans ta)
    have IAk := Lib.hid ia
    clear ia ta
    go_wp2_with fail
    refine (HkB _ (HW.out.turn TAk.out)).out.mono ?_
    rintro e wb ⟨vb, rfl, ib, tb⟩
    have TBk := Lib.hid (TAk.out.trans tb)
    have IBk := Lib.hid ib
    have ICk := Lib.hid (IAk.out.turn tb)
    clear ib tb
    clear f1
    cases x2 with
    | none =>
      obtain rfl : va = .slice none 0 0 := ICk.out
      go_wp2_with fail
      rw [rounds_succ]
      go_wp2_with fail
      go_ret
      refine ⟨?_, TBk.out⟩
      rw [← HZ.out]
      first | rfl | (cases y1 <;> rfl) | (cases y2 <;> rfl)
    | some X =>
      cases y2 with
      | none =>
        obtain ⟨bx, ox, cx, rfl, hcx, cX⟩ : IntSl _ _ _ := ICk.out
        obtain rfl : vb = .slice none 0 0 := IBk.out
        clear cX
        go_wp2_with fail
        rw [rounds_succ]
        go_wp2_with fail
        go_ret
        refine ⟨?_, TBk.out⟩
        rw [← HZ.out]
        first | rfl | (cases y1 <;> rfl) | (cases y2 <;> rfl)
      | some Y =>
        obtain ⟨bx, ox, cx, rfl, hcx, cX⟩ : IntSl _ _ _ := ICk.out
        obtain ⟨by', oy, cy, rfl, hcy, cY⟩ : IntSl _ _ _ := IBk.out
        have CX := Lib.hid cX
        have CY := Lib.hid cY
        have LX := L2 X rfl
        clear cX cY
        go_upto_region 6 with (fail)
        refine held_begin (fun u => True) (by kernel_rfl) ?_
        generalize hwd : World.drew _ = wd
        have TD : Hid (Turn Nn w wd) := Lib.hid (by rw [← hwd]; exact TBk.out.drew)
        have HSC := Lib.hid (scompare_any (w := wd) (cx := X.length) (cy := Y.length) LX.out (by rw [← hwd]; exact CX.out) (by rw [← hwd]; exact CY.out))
        clear hwd
        obtain ⟨lx, hlx⟩ : ∃ lx, X.length = lx := ⟨_, rfl⟩
        obtain ⟨ly, hly⟩ : ∃ ly, Y.length = ly := ⟨_, rfl⟩
        rw [hlx, hly] at HSC ⊢
        rw [hlx] at hcx
        rw [hly] at hcy
        refine held_take 0 ?_ rfl (by kernel_rfl) (by kernel_rfl) (by kernel_rfl) (fun _ _ _ h => h) (Or.inl ⟨by kernel_rfl, ?_⟩) trivial ?_
        rotate_left 1
        · intro u hu; go_simp; first | done | with_reducible rfl
        try simp only [Act.put, nA, nB, nC, nD, nE, nF]
        refine held_take 1 ?_ rfl (by kernel_rfl) (by kernel_rfl) (by kernel_rfl) (fun _ _ _ h => h) (Or.inl ⟨by kernel_rfl, ?_⟩) trivial ?_
        rotate_left 1
        · intro u hu; go_simp; first | done | with_reducible rfl
        try simp only [Act.put, nA, nB, nC, nD, nE, nF]
        refine held_take 2 ?_ rfl (by kernel_rfl) (by kernel_rfl) (by kernel_rfl) (fun _ _ _ h => h) (Or.inl ⟨by kernel_rfl, ?_⟩) trivial ?_
        rotate_left 1
        · intro u hu; go_simp; first | done | with_reducible rfl
        try simp only [Act.put, nA, nB, nC, nD, nE, nF]
        refine held_take 3 ?_ rfl (by kernel_rfl) (by kernel_rfl) (by kernel_rfl) (fun _ _ _ h => h) (Or.inl ⟨by kernel_rfl, ?_⟩) trivial ?_
        rotate_left 1
        · intro u hu; go_simp; first | done | with_reducible rfl
        try simp only [Act.put, nA, nB, nC, nD, nE, nF]
        refine held_take 4 ?_ rfl (by kernel_rfl) (by kernel_rfl) (by kernel_rfl) (fun _ _ _ h => h) (Or.inl ⟨by kernel_rfl, ?_⟩) trivial ?_
        rotate_left 1
        · intro u hu; go_simp; first | done | with_reducible rfl
        try simp only [Act.put, nA, nB, nC, nD, nE, nF]
        refine held_take 5 ?_ rfl (by kernel_rfl) (by kernel_rfl) (by kernel_rfl) (fun _ _ _ h => h) (Or.inl ⟨by kernel_rfl, ?_⟩) trivial ?_
        rotate_left 1
        · intro u hu; go_simp; first | done | with_reducible rfl
        try simp only [Act.put, nA, nB, nC, nD, nE, nF]
        refine held_take 6 ?_ rfl (by kernel_rfl) (by kernel_rfl) (by kernel_rfl) (fun _ _ _ h => h) (Or.inl ⟨by kernel_rfl, ?_⟩) trivial ?_
        rotate_left 1
        · intro u hu; go_simp; first | done | with_reducible rfl
        try simp only [Act.put, nA, nB, nC, nD, nE, nF]
        refine held_take 7 ?_ rfl (by kernel_rfl) (by kernel_rfl) (by kernel_rfl) (fun _ _ _ h => h) (Or.inl ⟨by kernel_rfl, ?_⟩) trivial ?_
        rotate_left 1
        · intro u hu; go_simp; first | done | with_reducible rfl
        try simp only [Act.put, nA, nB, nC, nD, nE, nF]
        refine held_take 8 ?_ rfl (by kernel_rfl) (by kernel_rfl) (by kernel_rfl) (fun _ _ _ h => h) (Or.inl ⟨by kernel_rfl, ?_⟩) trivial ?_
        rotate_left 1
        · intro u hu; go_simp; first | done | with_reducible rfl
        try simp only [Act.put, nA, nB, nC, nD, nE, nF]
        refine held_take 9 ?_ rfl (by kernel_rfl) (by kernel_rfl) (by kernel_rfl) (fun _ _ _ h => h) (Or.inl ⟨by kernel_rfl, ?_⟩) trivial ?_
        rotate_left 1
        · intro u hu; go_simp; first | done | with_reducible rfl
        try simp only [Act.put, nA, nB, nC, nD, nE, nF]
        refine held_take 10 ?_ rfl (by kernel_rfl) (by kernel_rfl) (by kernel_rfl) (fun _ _ _ h => h) (Or.inl ⟨by kernel_rfl, ?_⟩) trivial ?_
        rotate_left 1
        · intro u hu; go_simp; first | done | with_reducible rfl
        try simp only [Act.put, nA, nB, nC, nD, nE, nF]
        refine held_take 11 ?_ rfl (by kernel_rfl) (by kernel_rfl) (by kernel_rfl) (fun _ _ _ h => h) (Or.inl ⟨by kernel_rfl, ?_⟩) trivial ?_
        rotate_left 1
        · intro u hu; go_simp; first | done | with_reducible rfl
        try simp only [Act.put, nA, nB, nC, nD, nE, nF]
        refine held_call 12 (by kernel_rfl) rfl (by kernel_rfl) (by first | rfl | go_simp) HSC.out ?_ (fun c u h => by cases h.1) (fun u h => by cases h.1)
        rintro v8 we ⟨he, rfl⟩
        cases he
        refine ⟨trivial, ?_⟩
        try simp only [Act.put, nA, nB, nC, nD, nE, nF]
        refine held_take 13 ?_ rfl (by kernel_rfl) (by kernel_rfl) (by kernel_rfl) (fun _ _ _ h => h) (Or.inl ⟨by kernel_rfl, ?_⟩) trivial ?_
        rotate_left 1
        · intro u hu; go_simp; first | done | with_reducible rfl
        try simp only [Act.put, nA, nB, nC, nD, nE, nF]
        refine held_take 14 ?_ rfl (by kernel_rfl) (by kernel_rfl) (by kernel_rfl) (fun _ _ _ h => h) (Or.inl ⟨by kernel_rfl, ?_⟩) trivial ?_
        rotate_left 1
        · intro u hu; go_simp; first | done | with_reducible rfl
        try simp only [Act.put, nA, nB, nC, nD, nE, nF]
        refine wpAnyH_done (by kernel_rfl) ?_ _
        go_wp2_with fail
        go_ret
        refine ⟨?_, TD.out⟩
        rw [← HZ.out]
        show _ = Ending.returned (.bool (ltI X Y))
        have hlt := compL_lt X Y
        by_cases hc : compL X Y < 0
        · rw [show ltI X Y = true from hlt.mp hc]
          first | rfl | simp [hc]
        · rw [show ltI X Y = false from by rw [← Bool.not_eq_true, ← hlt]; exact hc]
          first | rfl | simp [hc]
  | some X =>
    cases y1 with
    | none =>
      obtain ⟨bx, ox, cx, rfl, hcx, cX⟩ : IntSl _ _ _ := ICp.out
      obtain rfl : vb = .slice none 0 0 := IBp.out
      clear cX
      go_wp2_with fail
      rw [rounds_succ]
      have f1 : wb.cell? ⟨n, 1, none⟩ = some (.func (.func 32) #[] #[]) := cell_turn (TQ.out) (cell_blk (o := 1) HB.out)
      go_wp2_with fail
      refine (HkA _ (HW.out.turn TBp.out)).out.mono ?_
      rintro e wa ⟨va, rfl, ia, ta⟩
      have TAk := Lib.hid (TBp.out.trans ta)
      have IAk := Lib.hid ia
      clear ia ta
      go_wp2_with fail
      refine (HkB _ (HW.out.turn TAk.out)).out.mono ?_
      rintro e wb ⟨vb, rfl, ib, tb⟩
      have TBk := Lib.hid (TAk.out.trans tb)
      have IBk := Lib.hid ib
      have ICk := Lib.hid (IAk.out.turn tb)
      clear ib tb
      clear f1
      cases x2 with
      | none =>
        obtain rfl : va = .slice none 0 0 := ICk.out
        go_wp2_with fail
        rw [rounds_succ]
        go_wp2_with fail
        go_ret
        refine ⟨?_, TBk.out⟩
        rw [← HZ.out]
        first | rfl | (cases y1 <;> rfl) | (cases y2 <;> rfl)
      | some X =>
        cases y2 with
        | none =>
          obtain ⟨bx, ox, cx, rfl, hcx, cX⟩ : IntSl _ _ _ := ICk.out
          obtain rfl : vb = .slice none 0 0 := IBk.out
          clear cX
          go_wp2_with fail
          rw [rounds_succ]
          go_wp2_with fail
          go_ret
          refine ⟨?_, TBk.out⟩
          rw [← HZ.out]
          first | rfl | (cases y1 <;> rfl) | (cases y2 <;> rfl)
        | some Y =>
          obtain ⟨bx, ox, cx, rfl, hcx, cX⟩ : IntSl _ _ _ := ICk.out
          obtain ⟨by', oy, cy, rfl, hcy, cY⟩ : IntSl _ _ _ := IBk.out
          have CX := Lib.hid cX
          have CY := Lib.hid cY
          have LX := L2 X rfl
          clear cX cY
          go_upto_region 6 with (fail)
          refine held_begin (fun u => True) (by kernel_rfl) ?_
          generalize hwd : World.drew _ = wd
          have TD : Hid (Turn Nn w wd) := Lib.hid (by rw [← hwd]; exact TBk.out.drew)
          have HSC := Lib.hid (scompare_any (w := wd) (cx := X.length) (cy := Y.length) LX.out (by rw [← hwd]; exact CX.out) (by rw [← hwd]; exact CY.out))
          clear hwd
          obtain ⟨lx, hlx⟩ : ∃ lx, X.length = lx := ⟨_, rfl⟩
          obtain ⟨ly, hly⟩ : ∃ ly, Y.length = ly := ⟨_, rfl⟩
          rw [hlx, hly] at HSC ⊢
          rw [hlx] at hcx
          rw [hly] at hcy
          refine held_take 0 ?_ rfl (by kernel_rfl) (by kernel_rfl) (by kernel_rfl) (fun _ _ _ h => h) (Or.inl ⟨by kernel_rfl, ?_⟩) trivial ?_
          rotate_left 1
          · intro u hu; go_simp; first | done | with_reducible rfl
          try simp only [Act.put, nA, nB, nC, nD, nE, nF]
          refine held_take 1 ?_ rfl (by kernel_rfl) (by kernel_rfl) (by kernel_rfl) (fun _ _ _ h => h) (Or.inl ⟨by kernel_rfl, ?_⟩) trivial ?_
          rotate_left 1
          · intro u hu; go_simp; first | done | with_reducible rfl
          try simp only [Act.put, nA, nB, nC, nD, nE, nF]
          refine held_take 2 ?_ rfl (by kernel_rfl) (by kernel_rfl) (by kernel_rfl) (fun _ _ _ h => h) (Or.inl ⟨by kernel_rfl, ?_⟩) trivial ?_
          rotate_left 1
          · intro u hu; go_simp; first | done | with_reducible rfl
          try simp only [Act.put, nA, nB, nC, nD, nE, nF]
          refine held_take 3 ?_ rfl (by kernel_rfl) (by kernel_rfl) (by kernel_rfl) (fun _ _ _ h => h) (Or.inl ⟨by kernel_rfl, ?_⟩) trivial ?_
          rotate_left 1
          · intro u hu; go_simp; first | done | with_reducible rfl
          try simp only [Act.put, nA, nB, nC, nD, nE, nF]
          refine held_take 4 ?_ rfl (by kernel_rfl) (by kernel_rfl) (by kernel_rfl) (fun _ _ _ h => h) (Or.inl ⟨by kernel_rfl, ?_⟩) trivial ?_
          rotate_left 1
          · intro u hu; go_simp; first | done | with_reducible rfl
          try simp only [Act.put, nA, nB, nC, nD, nE, nF]
          refine held_take 5 ?_ rfl (by kernel_rfl) (by kernel_rfl) (by kernel_rfl) (fun _ _ _ h => h) (Or.inl ⟨by kernel_rfl, ?_⟩) trivial ?_
          rotate_left 1
          · intro u hu; go_simp; first | done | with_reducible rfl
          try simp only [Act.put, nA, nB, nC, nD, nE, nF]
          refine held_take 6 ?_ rfl (by kernel_rfl) (by kernel_rfl) (by kernel_rfl) (fun _ _ _ h => h) (Or.inl ⟨by kernel_rfl, ?_⟩) trivial ?_
          rotate_left 1
          · intro u hu; go_simp; first | done | with_reducible rfl
          try simp only [Act.put, nA, nB, nC, nD, nE, nF]
          refine held_take 7 ?_ rfl (by kernel_rfl) (by kernel_rfl) (by kernel_rfl) (fun _ _ _ h => h) (Or.inl ⟨by kernel_rfl, ?_⟩) trivial ?_
          rotate_left 1
          · intro u hu; go_simp; first | done | with_reducible rfl
          try simp only [Act.put, nA, nB, nC, nD, nE, nF]
          refine held_take 8 ?_ rfl (by kernel_rfl) (by kernel_rfl) (by kernel_rfl) (fun _ _ _ h => h) (Or.inl ⟨by kernel_rfl, ?_⟩) trivial ?_
          rotate_left 1
          · intro u hu; go_simp; first | done | with_reducible rfl
          try simp only [Act.put, nA, nB, nC, nD, nE, nF]
          refine held_take 9 ?_ rfl (by kernel_rfl) (by kernel_rfl) (by kernel_rfl) (fun _ _ _ h => h) (Or.inl ⟨by kernel_rfl, ?_⟩) trivial ?_
          rotate_left 1
          · intro u hu; go_simp; first | done | with_reducible rfl
          try simp only [Act.put, nA, nB, nC, nD, nE, nF]
          refine held_take 10 ?_ rfl (by kernel_rfl) (by kernel_rfl) (by kernel_rfl) (fun _ _ _ h => h) (Or.inl ⟨by kernel_rfl, ?_⟩) trivial ?_
          rotate_left 1
          · intro u hu; go_simp; first | done | with_reducible rfl
          try simp only [Act.put, nA, nB, nC, nD, nE, nF]
          refine held_take 11 ?_ rfl (by kernel_rfl) (by kernel_rfl) (by kernel_rfl) (fun _ _ _ h => h) (Or.inl ⟨by kernel_rfl, ?_⟩) trivial ?_
          rotate_left 1
          · intro u hu; go_simp; first | done | with_reducible rfl
          try simp only [Act.put, nA, nB, nC, nD, nE, nF]
          refine held_call 12 (by kernel_rfl) rfl (by kernel_rfl) (by first | rfl | go_simp) HSC.out ?_ (fun c u h => by cases h.1) (fun u h => by cases h.1)
          rintro v8 we ⟨he, rfl⟩
          cases he
          refine ⟨trivial, ?_⟩
          try simp only [Act.put, nA, nB, nC, nD, nE, nF]
          refine held_take 13 ?_ rfl (by kernel_rfl) (by kernel_rfl) (by kernel_rfl) (fun _ _ _ h => h) (Or.inl ⟨by kernel_rfl, ?_⟩) trivial ?_
          rotate_left 1
          · intro u hu; go_simp; first | done | with_reducible rfl
          try simp only [Act.put, nA, nB, nC, nD, nE, nF]
          refine held_take 14 ?_ rfl (by kernel_rfl) (by kernel_rfl) (by kernel_rfl) (fun _ _ _ h => h) (Or.inl ⟨by kernel_rfl, ?_⟩) trivial ?_
          rotate_left 1
          · intro u hu; go_simp; first | done | with_reducible rfl
          try simp only [Act.put, nA, nB, nC, nD, nE, nF]
          refine wpAnyH_done (by kernel_rfl) ?_ _
          go_wp2_with fail
          go_ret
          refine ⟨?_, TD.out⟩
          rw [← HZ.out]
          show _ = Ending.returned (.bool (ltI X Y))
          have hlt := compL_lt X Y
          by_cases hc : compL X Y < 0
          · rw [show ltI X Y = true from hlt.mp hc]
            first | rfl | simp [hc]
          · rw [show ltI X Y = false from by rw [← Bool.not_eq_true, ← hlt]; exact hc]
            first | rfl | simp [hc]
    | some Y =>
      obtain ⟨bx, ox, cx, rfl, hcx, cX⟩ : IntSl _ _ _ := ICp.out
      obtain ⟨by', oy, cy, rfl, hcy, cY⟩ : IntSl _ _ _ := IBp.out
      have CX := Lib.hid cX
      have CY := Lib.hid cY
      have LX := L1 X rfl
      clear cX cY
      go_upto_region 6 with (fail)
      refine held_begin (fun u => True) (by kernel_rfl) ?_
      generalize hwd : World.drew _ = wd
      have TD : Hid (Turn Nn w wd) := Lib.hid (by rw [← hwd]; exact TBp.out.drew)
      have HSC := Lib.hid (scompare_any (w := wd) (cx := X.length) (cy := Y.length) LX.out (by rw [← hwd]; exact CX.out) (by rw [← hwd]; exact CY.out))
      clear hwd
      obtain ⟨lx, hlx⟩ : ∃ lx, X.length = lx := ⟨_, rfl⟩
      obtain ⟨ly, hly⟩ : ∃ ly, Y.length = ly := ⟨_, rfl⟩
      rw [hlx, hly] at HSC ⊢
      rw [hlx] at hcx
      rw [hly] at hcy
      refine held_take 0 ?_ rfl (by kernel_rfl) (by kernel_rfl) (by kernel_rfl) (fun _ _ _ h => h) (Or.inl ⟨by kernel_rfl, ?_⟩) trivial ?_
      rotate_left 1
      · intro u hu; go_simp; first | done | with_reducible rfl
      try simp only [Act.put, nA, nB, nC, nD, nE, nF]
      refine held_take 1 ?_ rfl (by kernel_rfl) (by kernel_rfl) (by kernel_rfl) (fun _ _ _ h => h) (Or.inl ⟨by kernel_rfl, ?_⟩) trivial ?_
      rotate_left 1
      · intro u hu; go_simp; first | done | with_reducible rfl
      try simp only [Act.put, nA, nB, nC, nD, nE, nF]
      refine held_take 2 ?_ rfl (by kernel_rfl) (by kernel_rfl) (by kernel_rfl) (fun _ _ _ h => h) (Or.inl ⟨by kernel_rfl, ?_⟩) trivial ?_
      rotate_left 1
      · intro u hu; go_simp; first | done | with_reducible rfl
      try simp only [Act.put, nA, nB, nC, nD, nE, nF]
      refine held_take 3 ?_ rfl (by kernel_rfl) (by kernel_rfl) (by kernel_rfl) (fun _ _ _ h => h) (Or.inl ⟨by kernel_rfl, ?_⟩) trivial ?_
      rotate_left 1
      · intro u hu; go_simp; first | done | with_reducible rfl
      try simp only [Act.put, nA, nB, nC, nD, nE, nF]
      refine held_take 4 ?_ rfl (by kernel_rfl) (by kernel_rfl) (by kernel_rfl) (fun _ _ _ h => h) (Or.inl ⟨by kernel_rfl, ?_⟩) trivial ?_
      rotate_left 1
      · intro u hu; go_simp; first | done | with_reducible rfl
      try simp only [Act.put, nA, nB, nC, nD, nE, nF]
      refine held_take 5 ?_ rfl (by kernel_rfl) (by kernel_rfl) (by kernel_rfl) (fun _ _ _ h => h) (Or.inl ⟨by kernel_rfl, ?_⟩) trivial ?_
      rotate_left 1
      · intro u hu; go_simp; first | done | with_reducible rfl
      try simp only [Act.put, nA, nB, nC, nD, nE, nF]
      refine held_take 6 ?_ rfl (by kernel_rfl) (by kernel_rfl) (by kernel_rfl) (fun _ _ _ h => h) (Or.inl ⟨by kernel_rfl, ?_⟩) trivial ?_
      rotate_left 1
      · intro u hu; go_simp; first | done | with_reducible rfl
      try simp only [Act.put, nA, nB, nC, nD, nE, nF]
      refine held_take 7 ?_ rfl (by kernel_rfl) (by kernel_rfl) (by kernel_rfl) (fun _ _ _ h => h) (Or.inl ⟨by kernel_rfl, ?_⟩) trivial ?_
      rotate_left 1
      · intro u hu; go_simp; first | done | with_reducible rfl
      try simp only [Act.put, nA, nB, nC, nD, nE, nF]
      refine held_take 8 ?_ rfl (by kernel_rfl) (by kernel_rfl) (by kernel_rfl) (fun _ _ _ h => h) (Or.inl ⟨by kernel_rfl, ?_⟩) trivial ?_
      rotate_left 1
      · intro u hu; go_simp; first | done | with_reducible rfl
      try simp only [Act.put, nA, nB, nC, nD, nE, nF]
      refine held_take 9 ?_ rfl (by kernel_rfl) (by kernel_rfl) (by kernel_rfl) (fun _ _ _ h => h) (Or.inl ⟨by kernel_rfl, ?_⟩) trivial ?_
      rotate_left 1
      · intro u hu; go_simp; first | done | with_reducible rfl
      try simp only [Act.put, nA, nB, nC, nD, nE, nF]
      refine held_take 10 ?_ rfl (by kernel_rfl) (by kernel_rfl) (by kernel_rfl) (fun _ _ _ h => h) (Or.inl ⟨by kernel_rfl, ?_⟩) trivial ?_
      rotate_left 1
      · intro u hu; go_simp; first | done | with_reducible rfl
      try simp only [Act.put, nA, nB, nC, nD, nE, nF]
      refine held_take 11 ?_ rfl (by kernel_rfl) (by kernel_rfl) (by kernel_rfl) (fun _ _ _ h => h) (Or.inl ⟨by kernel_rfl, ?_⟩) trivial ?_
      rotate_left 1
      · intro u hu; go_simp; first | done | with_reducible rfl
      try simp only [Act.put, nA, nB, nC, nD, nE, nF]
      refine held_call 12 (by kernel_rfl) rfl (by kernel_rfl) (by first | rfl | go_simp) HSC.out ?_ (fun c u h => by cases h.1) (fun u h => by cases h.1)
      rintro v8 we ⟨he, rfl⟩
      cases he
      refine ⟨trivial, ?_⟩
      try simp only [Act.put, nA, nB, nC, nD, nE, nF]
      refine held_take 13 ?_ rfl (by kernel_rfl) (by kernel_rfl) (by kernel_rfl) (fun _ _ _ h => h) (Or.inl ⟨by kernel_rfl, ?_⟩) trivial ?_
      rotate_left 1
      · intro u hu; go_simp; first | done | with_reducible rfl
      try simp only [Act.put, nA, nB, nC, nD, nE, nF]
      refine held_take 14 ?_ rfl (by kernel_rfl) (by kernel_rfl) (by kernel_rfl) (fun _ _ _ h => h) (Or.inl ⟨by kernel_rfl, ?_⟩) trivial ?_
      rotate_left 1
      · intro u hu; go_simp; first | done | with_reducible rfl
      try simp only [Act.put, nA, nB, nC, nD, nE, nF]
      refine wpAnyH_done (by kernel_rfl) ?_ _
      go_wp2_with fail
      go_ret
      refine ⟨?_, TD.out⟩
      rw [← HZ.out]
      show _ = Ending.returned (.bool (ltI X Y))
      have hlt := compL_lt X Y
      by_cases hc : compL X Y < 0
      · rw [show ltI X Y = true from hlt.mp hc]
        first | rfl | simp [hc]
      · rw [show ltI X Y = false from by rw [← Bool.not_eq_true, ← hlt]; exact hc]
        first | rfl | simp [hc]
end
end Go.Proofs.YtpbjblbeepbklaaGreatDoor
