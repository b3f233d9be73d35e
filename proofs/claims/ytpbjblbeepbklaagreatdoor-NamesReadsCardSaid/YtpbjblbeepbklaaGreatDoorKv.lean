/- The program's walks: law.event, by the contracts of what it calls. Printed by gen_xt.py. -/
import Derived.Test.YtpbjblbeepbklaaGreatDoorKr
import Derived.Test.YtpbjblbeepbklaaGreatDoorKs
import Derived.Test.YtpbjblbeepbklaaGreatDoorKm
namespace Go.Proofs.YtpbjblbeepbklaaGreatDoor
set_option linter.unusedSimpArgs false
set_option linter.unusedVariables false
open Go.RowKit Go.Shelf Go.Lib

structure EvDoor (w W : World) (n q : Nat) (acts : Array Value) (E : EventD) : Prop where
  act : W.heap[n]? = some (.cells acts 36)
  res : EvAt W (n + 1) zeroE
  ev : EvAt W q E
  low : Turn Nn w W
  gn : w.heap.size ≤ n
  gq : w.heap.size ≤ q
  n1 : n ≠ q
  n2 : n + 1 ≠ q
theorem EvDoor.turn {w W W' : World} {n q : Nat} {acts : Array Value} {E : EventD} (D : EvDoor w W n q acts E) (t : Turn Nn W W') : EvDoor w W' n q acts E :=
  ⟨(t.block _ (heap_lt D.act) (fun h => h)).trans D.act, D.res.turn t, D.ev.turn t, D.low.trans t, D.gn, D.gq, D.n1, D.n2⟩
theorem EvDoor.set {w W : World} {n q : Nat} {acts : Array Value} {E E' : EventD} (D : EvDoor w W n q acts E) (i : Nat) (v : Value) (he : (evC E).setIfInBounds i v = evC E') : EvDoor w (W.setCell ⟨q, i, none⟩ v) n q acts E' :=
  ⟨blk_set D.act D.n1, blk_set D.res D.n2, by have := heap_setCell_at D.ev i v; rw [he] at this; exact this, D.low.setCell (p := ⟨q, i, none⟩) (.inr D.gq) _, D.gn, D.gq, D.n1, D.n2⟩
theorem EvDoor.all {w W : World} {n q : Nat} {acts : Array Value} {E : EventD} (D : EvDoor w W n q acts E) (E' : EventD) : EvDoor w (set9 W q E') n q acts E' :=
  ⟨set9_blk D.act D.n1, set9_blk D.res D.n2, set9_at D.ev E', D.low.off (set9_turn (B := q) E') D.gq, D.gn, D.gq, D.n1, D.n2⟩
theorem EvDoor.as {w W : World} {n q : Nat} {acts : Array Value} {E E' : EventD} (D : EvDoor w W n q acts E) (h : E = E') : EvDoor w W n q acts E' := h ▸ D
/-- A new event's block. -/
theorem newbox {w W : World} {n : Nat} {acts : Array Value} (ha : W.heap[n]? = some (.cells acts 36)) (hr : EvAt W (n + 1) zeroE) (low : Turn Nn w W) (gn : w.heap.size ≤ n) :
    ∃ q wb, W.heap.size = q ∧ W.alloc (.cells #[.int .i64 0, .int .i64 0, .string ⟨#[]⟩, .int .i64 0, .string ⟨#[]⟩, .int .i64 0, .int .i64 0, .int .i64 0, .string ⟨#[]⟩] 34) = wb ∧ EvDoor w wb n q acts zeroE := by
  obtain ⟨wb, e0⟩ : ∃ wb, W.alloc (.cells (evC zeroE) 34) = wb := ⟨_, rfl⟩
  obtain ⟨b0, t0⟩ := alloc1 e0
  have h1 := heap_lt ha
  have h2 := heap_lt hr
  exact ⟨W.heap.size, wb, rfl, e0, ⟨(t0.block _ h1 (fun h => h)).trans ha, hr.turn t0, b0, low.trans t0, gn, low.size, by omega, by omega⟩⟩
set_option maxRecDepth 100000 in
set_option maxHeartbeats 40000000 in
theorem event_walk {w : World} {va vc vn : Value} {kd sd tg od wd Kx Sl P T S2 S8 O : Int} {A C N0 N1 N2 DS : Bs}
    (hk : 0 ≤ kd ∧ kd < 256) (hs : 0 ≤ sd ∧ sd < 256) (ht : 0 ≤ tg ∧ tg < 256) (ho : 0 ≤ od ∧ od < 256)
    (eK : kd % 10 = Kx) (eSl : kd / 10 = Sl) (eP : tg / 3 = P) (eT : tg % 3 = T) (eS2 : sd % 2 = S2) (eS8 : sd % 8 = S8) (eO : od % 16 = O)
    (hwd : Int64 wd) (lA : A.length ≤ 100) (lD : DS.length ≤ 100)
    (nA0 : Gives w 9 #[va, .int .i64 0] (.string (BT A))) (nC1 : Gives w 9 #[vc, .int .i64 1] (.string (BT C)))
    (nN0 : Gives w 9 #[vn, .int .i64 0] (.string (BT N0))) (nN1 : Gives w 9 #[vn, .int .i64 1] (.string (BT N1))) (nN2 : Gives w 9 #[vn, .int .i64 2] (.string (BT N2)))
    (dS : Gives w 26 #[.int .u8 sd] (.string (BT DS))) :
    Calls Tryz.prog 23 #[.agg #[.int .u8 kd, va, vc, vn, .int .u8 sd, .int .u8 tg, .int .i64 wd, .int .u8 od]] w fun e w' => e = .returned (.agg (evC (oddE O tg N0 N1 (baseE Kx Sl P T S2 S8 wd A C N2 DS)))) ∧ Turn Nn w w' := by
  obtain ⟨w1, e1⟩ : ∃ w1, w.alloc (.cells #[.int .u8 kd, va, vc, vn, .int .u8 sd, .int .u8 tg, .int .i64 wd, .int .u8 od] 36) = w1 := ⟨_, rfl⟩
  obtain ⟨b1, t1⟩ := alloc1 e1
  obtain ⟨w2, e2⟩ : ∃ w2, w1.alloc (.cells #[.int .i64 0, .int .i64 0, .string ⟨#[]⟩, .int .i64 0, .string ⟨#[]⟩, .int .i64 0, .int .i64 0, .int .i64 0, .string ⟨#[]⟩] 34) = w2 := ⟨_, rfl⟩
  obtain ⟨b2, t2⟩ := alloc1 e2
  obtain ⟨n, hn⟩ : ∃ n, w.heap.size = n := ⟨_, rfl⟩
  have hn1 : w1.heap.size = n + 1 := by rw [← e1, World.size_alloc, hn]
  rw [hn] at b1
  rw [hn1] at b2
  have B2 : Hid (w2.heap[n]? = some (.cells #[.int .u8 kd, va, vc, vn, .int .u8 sd, .int .u8 tg, .int .i64 wd, .int .u8 od] 36) ∧ EvAt w2 (n + 1) zeroE ∧ Turn Nn w w2) := Lib.hid ⟨(t2.block _ (heap_lt b1) (fun h => h)).trans b1, b2, t1.trans t2⟩
  have hgn : w.heap.size ≤ n := by omega
  have m1 : kd.tmod 10 = Kx := by rw [← eK]; exact Int.tmod_eq_emod_of_nonneg (by omega)
  have m2 : kd.tdiv 10 = Sl := by rw [← eSl]; exact Int.tdiv_eq_ediv_of_nonneg (by omega)
  have m3 : tg.tdiv 3 = P := by rw [← eP]; exact Int.tdiv_eq_ediv_of_nonneg (by omega)
  have m4 : tg.tmod 3 = T := by rw [← eT]; exact Int.tmod_eq_emod_of_nonneg (by omega)
  have m5 : sd.tmod 2 = S2 := by rw [← eS2]; exact Int.tmod_eq_emod_of_nonneg (by omega)
  have m6 : sd.tmod 8 = S8 := by rw [← eS8]; exact Int.tmod_eq_emod_of_nonneg (by omega)
  have m7 : od.tmod 16 = O := by rw [← eO]; exact Int.tmod_eq_emod_of_nonneg (by omega)
  have c1 : IntKind.i64.wrap kd = kd := by rw [IntKind.wrap_i64]; omega
  have c2 : IntKind.i64.wrap tg = tg := by rw [IntKind.wrap_i64]; omega
  have c3 : IntKind.i64.wrap sd = sd := by rw [IntKind.wrap_i64]; omega
  have c4 : IntKind.i64.wrap S2 = S2 := by rw [IntKind.wrap_i64]; omega
  have c5 : IntKind.i64.wrap Kx = Kx := by rw [IntKind.wrap_i64]; omega
  have c6 : IntKind.i64.wrap Sl = Sl := by rw [IntKind.wrap_i64]; omega
  have c7 : IntKind.i64.wrap P = P := by rw [IntKind.wrap_i64]; omega
  have c8 : IntKind.i64.wrap T = T := by rw [IntKind.wrap_i64]; omega
  have c9 : IntKind.i64.wrap S8 = S8 := by rw [IntKind.wrap_i64]; omega
  have c10 : IntKind.u8.wrap S2 = S2 := IntWalk.u8_in _ (by omega)
  have c11 : IntKind.u8.wrap O = O := IntWalk.u8_in _ (by omega)
  have hK : Kx = 0 ∨ Kx = 1 ∨ Kx = 2 ∨ Kx = 3 ∨ Kx = 4 ∨ Kx = 5 ∨ Kx = 6 ∨ Kx = 7 ∨ Kx = 8 ∨ Kx = 9 := by omega
  have hT : T = 0 ∨ T = 1 ∨ T = 2 := by omega
  have hO : O = 1 ∨ O = 2 ∨ O = 3 ∨ O = 4 ∨ O = 5 ∨ O = 6 ∨ O = 7 ∨ O = 8 ∨ O = 0 ∨ O = 9 ∨ O = 10 ∨ O = 11 ∨ O = 12 ∨ O = 13 ∨ O = 14 ∨ O = 15 := by omega
  have HK := Lib.hid hK
  have HT := Lib.hid hT
  have HO := Lib.hid hO
  have HLA := Lib.hid lA
  have HLD := Lib.hid lD
  have hbA : (baseE Kx Sl P T S2 S8 wd A C N2 DS).actor.length ≤ 100 := by
    unfold baseE; repeat' split
    all_goals first | exact lA | simp
  have hbS : Int64 (baseE Kx Sl P T S2 S8 wd A C N2 DS).slot ∧ Int64 (baseE Kx Sl P T S2 S8 wd A C N2 DS).pc := by
    have i1 : Int64 Sl := by unfold Int64; omega
    have i2 : Int64 P := by unfold Int64; omega
    unfold baseE; repeat' split
    all_goals first | exact ⟨i1, i2⟩ | exact ⟨hwd, int64_0⟩
  have HBA := Lib.hid hbA
  have HBS := Lib.hid hbS
  clear hbA hbS hwd b1 b2 t1 t2 hk hs ht ho hK hT hO lA lD
  obtain ⟨E, hE⟩ : ∃ E, baseE Kx Sl P T S2 S8 wd A C N2 DS = E := ⟨_, rfl⟩
  rw [hE] at HBA HBS ⊢
  obtain ⟨F, hF⟩ : ∃ F, oddE O tg N0 N1 E = F := ⟨_, rfl⟩
  rw [hF]
  have HE := Lib.hid hE
  have HF := Lib.hid hF
  clear hE hF
  go_enter Tryz.func23, Tryz.ntmps23
  go_upto_region 1 with (fail)
  go_cut [3] from 4 (fun p3 wx => ∃ q, p3 = .pointer (some ⟨q, 0, none⟩) ∧ EvDoor w wx n q #[.int .u8 kd, va, vc, vn, .int .u8 sd, .int .u8 tg, .int .i64 wd, .int .u8 od] ⟨Kx, Sl, A, P, [], 0, 0, 0, []⟩)
  case first =>
    refine held_begin (fun u => u.heap[n]? = some (.cells #[.int .u8 kd, va, vc, vn, .int .u8 sd, .int .u8 tg, .int .i64 wd, .int .u8 od] 36) ∧ EvAt u (n + 1) zeroE ∧ Turn Nn w u) (by kernel_rfl) ?_
    generalize hwd : World.drew w2 = ws
    have SD : Hid (ws.heap[n]? = some (.cells #[.int .u8 kd, va, vc, vn, .int .u8 sd, .int .u8 tg, .int .i64 wd, .int .u8 od] 36) ∧ EvAt ws (n + 1) zeroE ∧ Turn Nn w ws) := Lib.hid (by rw [← hwd]; exact ⟨B2.out.1, B2.out.2.1, B2.out.2.2.drew⟩)
    clear hwd
    refine held_take 0 ?_ rfl (by kernel_rfl) (by kernel_rfl) (by kernel_rfl) (fun _ _ _ h => h) (Or.inl ⟨by kernel_rfl, ?_⟩) SD.out ?_
    rotate_left 1
    · intro u hu; obtain ⟨hu, _⟩ := hu; have a0 : u.cell? ⟨n, 0, none⟩ = some (.int .u8 kd) := cell_blk hu; have a1 : u.cell? ⟨n, 1, none⟩ = some (va) := cell_blk hu; have a5 : u.cell? ⟨n, 5, none⟩ = some (.int .u8 tg) := cell_blk hu; go_simp; first | done | with_reducible rfl
    try simp only [Act.put, nA, nB, nC, nD, nE, nF]
    refine held_take 1 ?_ rfl (by kernel_rfl) (by kernel_rfl) (by kernel_rfl) (fun _ _ _ h => h) (Or.inl ⟨by kernel_rfl, ?_⟩) SD.out ?_
    rotate_left 1
    · intro u hu; obtain ⟨hu, _⟩ := hu; have a0 : u.cell? ⟨n, 0, none⟩ = some (.int .u8 kd) := cell_blk hu; have a1 : u.cell? ⟨n, 1, none⟩ = some (va) := cell_blk hu; have a5 : u.cell? ⟨n, 5, none⟩ = some (.int .u8 tg) := cell_blk hu; go_simp; first | done | with_reducible rfl
    try simp only [Act.put, nA, nB, nC, nD, nE, nF]
    refine held_take 2 ?_ rfl (by kernel_rfl) (by kernel_rfl) (by kernel_rfl) (fun _ _ _ h => h) (Or.inl ⟨by kernel_rfl, ?_⟩) SD.out ?_
    rotate_left 1
    · intro u hu; obtain ⟨hu, _⟩ := hu; have a0 : u.cell? ⟨n, 0, none⟩ = some (.int .u8 kd) := cell_blk hu; have a1 : u.cell? ⟨n, 1, none⟩ = some (va) := cell_blk hu; have a5 : u.cell? ⟨n, 5, none⟩ = some (.int .u8 tg) := cell_blk hu; go_simp; first | done | with_reducible rfl
    try simp only [Act.put, nA, nB, nC, nD, nE, nF]
    refine held_take 3 ?_ rfl (by kernel_rfl) (by kernel_rfl) (by kernel_rfl) (fun _ _ _ h => h) (Or.inl ⟨by kernel_rfl, ?_⟩) SD.out ?_
    rotate_left 1
    · intro u hu; obtain ⟨hu, _⟩ := hu; have a0 : u.cell? ⟨n, 0, none⟩ = some (.int .u8 kd) := cell_blk hu; have a1 : u.cell? ⟨n, 1, none⟩ = some (va) := cell_blk hu; have a5 : u.cell? ⟨n, 5, none⟩ = some (.int .u8 tg) := cell_blk hu; go_simp; first | done | with_reducible rfl
    try simp only [Act.put, nA, nB, nC, nD, nE, nF]
    refine held_take 4 ?_ rfl (by kernel_rfl) (by kernel_rfl) (by kernel_rfl) (fun _ _ _ h => h) (Or.inl ⟨by kernel_rfl, ?_⟩) SD.out ?_
    rotate_left 1
    · intro u hu; obtain ⟨hu, _⟩ := hu; have a0 : u.cell? ⟨n, 0, none⟩ = some (.int .u8 kd) := cell_blk hu; have a1 : u.cell? ⟨n, 1, none⟩ = some (va) := cell_blk hu; have a5 : u.cell? ⟨n, 5, none⟩ = some (.int .u8 tg) := cell_blk hu; go_simp; first | done | with_reducible rfl
    try simp only [Act.put, nA, nB, nC, nD, nE, nF]
    refine held_take 5 ?_ rfl (by kernel_rfl) (by kernel_rfl) (by kernel_rfl) (fun _ _ _ h => h) (Or.inl ⟨by kernel_rfl, ?_⟩) SD.out ?_
    rotate_left 1
    · intro u hu; obtain ⟨hu, _⟩ := hu; have a0 : u.cell? ⟨n, 0, none⟩ = some (.int .u8 kd) := cell_blk hu; have a1 : u.cell? ⟨n, 1, none⟩ = some (va) := cell_blk hu; have a5 : u.cell? ⟨n, 5, none⟩ = some (.int .u8 tg) := cell_blk hu; go_simp; first | done | with_reducible rfl
    try simp only [Act.put, nA, nB, nC, nD, nE, nF]
    refine held_take 6 ?_ rfl (by kernel_rfl) (by kernel_rfl) (by kernel_rfl) (fun _ _ _ h => h) (Or.inl ⟨by kernel_rfl, ?_⟩) SD.out ?_
    rotate_left 1
    · intro u hu; obtain ⟨hu, _⟩ := hu; have a0 : u.cell? ⟨n, 0, none⟩ = some (.int .u8 kd) := cell_blk hu; have a1 : u.cell? ⟨n, 1, none⟩ = some (va) := cell_blk hu; have a5 : u.cell? ⟨n, 5, none⟩ = some (.int .u8 tg) := cell_blk hu; go_simp; first | done | with_reducible rfl
    try simp only [Act.put, nA, nB, nC, nD, nE, nF]
    refine held_take 7 ?_ rfl (by kernel_rfl) (by kernel_rfl) (by kernel_rfl) (fun _ _ _ h => h) (Or.inl ⟨by kernel_rfl, ?_⟩) SD.out ?_
    rotate_left 1
    · intro u hu; obtain ⟨hu, _⟩ := hu; have a0 : u.cell? ⟨n, 0, none⟩ = some (.int .u8 kd) := cell_blk hu; have a1 : u.cell? ⟨n, 1, none⟩ = some (va) := cell_blk hu; have a5 : u.cell? ⟨n, 5, none⟩ = some (.int .u8 tg) := cell_blk hu; go_simp; first | done | with_reducible rfl
    try simp only [Act.put, nA, nB, nC, nD, nE, nF]
    refine held_take 8 ?_ rfl (by kernel_rfl) (by kernel_rfl) (by kernel_rfl) (fun _ _ _ h => h) (Or.inl ⟨by kernel_rfl, ?_⟩) SD.out ?_
    rotate_left 1
    · intro u hu; obtain ⟨hu, _⟩ := hu; have a0 : u.cell? ⟨n, 0, none⟩ = some (.int .u8 kd) := cell_blk hu; have a1 : u.cell? ⟨n, 1, none⟩ = some (va) := cell_blk hu; have a5 : u.cell? ⟨n, 5, none⟩ = some (.int .u8 tg) := cell_blk hu; go_simp; first | done | with_reducible rfl
    try simp only [Act.put, nA, nB, nC, nD, nE, nF]
    refine held_take 9 ?_ rfl (by kernel_rfl) (by kernel_rfl) (by kernel_rfl) (fun _ _ _ h => h) (Or.inl ⟨by kernel_rfl, ?_⟩) SD.out ?_
    rotate_left 1
    · intro u hu; obtain ⟨hu, _⟩ := hu; have a0 : u.cell? ⟨n, 0, none⟩ = some (.int .u8 kd) := cell_blk hu; have a1 : u.cell? ⟨n, 1, none⟩ = some (va) := cell_blk hu; have a5 : u.cell? ⟨n, 5, none⟩ = some (.int .u8 tg) := cell_blk hu; go_simp; first | done | with_reducible rfl
    try simp only [Act.put, nA, nB, nC, nD, nE, nF]
    refine held_take 11 ?_ rfl (by kernel_rfl) (by kernel_rfl) (by kernel_rfl) (fun _ _ _ h => h) (Or.inl ⟨by kernel_rfl, ?_⟩) SD.out ?_
    rotate_left 1
    · intro u hu; obtain ⟨hu, _⟩ := hu; have a0 : u.cell? ⟨n, 0, none⟩ = some (.int .u8 kd) := cell_blk hu; have a1 : u.cell? ⟨n, 1, none⟩ = some (va) := cell_blk hu; have a5 : u.cell? ⟨n, 5, none⟩ = some (.int .u8 tg) := cell_blk hu; go_simp; first | done | with_reducible rfl
    try simp only [Act.put, nA, nB, nC, nD, nE, nF]
    refine held_take 12 ?_ rfl (by kernel_rfl) (by kernel_rfl) (by kernel_rfl) (fun _ _ _ h => h) (Or.inl ⟨by kernel_rfl, ?_⟩) SD.out ?_
    rotate_left 1
    · intro u hu; obtain ⟨hu, _⟩ := hu; have a0 : u.cell? ⟨n, 0, none⟩ = some (.int .u8 kd) := cell_blk hu; have a1 : u.cell? ⟨n, 1, none⟩ = some (va) := cell_blk hu; have a5 : u.cell? ⟨n, 5, none⟩ = some (.int .u8 tg) := cell_blk hu; go_simp; first | done | with_reducible rfl
    try simp only [Act.put, nA, nB, nC, nD, nE, nF]
    refine held_take 13 ?_ rfl (by kernel_rfl) (by kernel_rfl) (by kernel_rfl) (fun _ _ _ h => h) (Or.inl ⟨by kernel_rfl, ?_⟩) SD.out ?_
    rotate_left 1
    · intro u hu; obtain ⟨hu, _⟩ := hu; have a0 : u.cell? ⟨n, 0, none⟩ = some (.int .u8 kd) := cell_blk hu; have a1 : u.cell? ⟨n, 1, none⟩ = some (va) := cell_blk hu; have a5 : u.cell? ⟨n, 5, none⟩ = some (.int .u8 tg) := cell_blk hu; go_simp; first | done | with_reducible rfl
    try simp only [Act.put, nA, nB, nC, nD, nE, nF]
    refine held_take 14 ?_ rfl (by kernel_rfl) (by kernel_rfl) (by kernel_rfl) (fun _ _ _ h => h) (Or.inl ⟨by kernel_rfl, ?_⟩) SD.out ?_
    rotate_left 1
    · intro u hu; obtain ⟨hu, _⟩ := hu; have a0 : u.cell? ⟨n, 0, none⟩ = some (.int .u8 kd) := cell_blk hu; have a1 : u.cell? ⟨n, 1, none⟩ = some (va) := cell_blk hu; have a5 : u.cell? ⟨n, 5, none⟩ = some (.int .u8 tg) := cell_blk hu; go_simp; first | done | with_reducible rfl
    try simp only [Act.put, nA, nB, nC, nD, nE, nF]
    refine held_pair 10 16 (by kernel_rfl) rfl rfl (by kernel_rfl) (by kernel_rfl) (fun K hK => ?_) (fun K hK => ?_)
    · go_simp
      refine (nA0 _ SD.out.2.2).mono ?_
      rintro e w3 ⟨rfl, t⟩
      have S4 : Hid (w3.heap[n]? = some (.cells #[.int .u8 kd, va, vc, vn, .int .u8 sd, .int .u8 tg, .int .i64 wd, .int .u8 od] 36) ∧ EvAt w3 (n + 1) zeroE ∧ Turn Nn w w3) := Lib.hid ⟨(t.block _ (heap_lt SD.out.1) (fun h => h)).trans SD.out.1, SD.out.2.1.turn t, SD.out.2.2.trans t⟩
      clear t
      refine hK _ _ S4.out ?_
      clear hK K
      try simp only [Act.put, nA, nB, nC, nD, nE, nF]
      refine held_take 15 ?_ rfl (by kernel_rfl) (by kernel_rfl) (by kernel_rfl) (fun _ _ _ h => h) (Or.inl ⟨by kernel_rfl, ?_⟩) S4.out ?_
      rotate_left 1
      · intro u hu; go_simp; first | done | with_reducible rfl
      try simp only [Act.put, nA, nB, nC, nD, nE, nF]
      obtain ⟨q, wb, hq, eb, db⟩ := newbox S4.out.1 S4.out.2.1 S4.out.2.2 hgn
      have Db := Lib.hid db
      clear db
      refine held_one 16 (by kernel_rfl) rfl (by kernel_rfl) (fun K hK => ?_)
      go_simp
      refine hK _ _ ⟨Db.out.act, Db.out.res, Db.out.low⟩ ?_
      clear hK K
      try simp only [Act.put, nA, nB, nC, nD, nE, nF]
      have y0 : wb.cell? ⟨q, 0, none⟩ = some (.int .i64 0) := cell_blk Db.out.ev
      have y1 : wb.cell? ⟨q, 1, none⟩ = some (.int .i64 0) := cell_blk Db.out.ev
      have y2 : wb.cell? ⟨q, 2, none⟩ = some (.string ⟨#[]⟩) := cell_blk Db.out.ev
      have y3 : wb.cell? ⟨q, 3, none⟩ = some (.int .i64 0) := cell_blk Db.out.ev
      have y4 : wb.cell? ⟨q, 4, none⟩ = some (.string ⟨#[]⟩) := cell_blk Db.out.ev
      have y5 : wb.cell? ⟨q, 5, none⟩ = some (.int .i64 0) := cell_blk Db.out.ev
      have y6 : wb.cell? ⟨q, 6, none⟩ = some (.int .i64 0) := cell_blk Db.out.ev
      have y7 : wb.cell? ⟨q, 7, none⟩ = some (.int .i64 0) := cell_blk Db.out.ev
      have y8 : wb.cell? ⟨q, 8, none⟩ = some (.string ⟨#[]⟩) := cell_blk Db.out.ev
      have z0 : wb.frozen? ⟨q, 0, none⟩ = false := frozen_blk Db.out.ev
      have z1 : wb.frozen? ⟨q, 1, none⟩ = false := frozen_blk Db.out.ev
      have z2 : wb.frozen? ⟨q, 2, none⟩ = false := frozen_blk Db.out.ev
      have z3 : wb.frozen? ⟨q, 3, none⟩ = false := frozen_blk Db.out.ev
      have z4 : wb.frozen? ⟨q, 4, none⟩ = false := frozen_blk Db.out.ev
      have z5 : wb.frozen? ⟨q, 5, none⟩ = false := frozen_blk Db.out.ev
      have z6 : wb.frozen? ⟨q, 6, none⟩ = false := frozen_blk Db.out.ev
      have z7 : wb.frozen? ⟨q, 7, none⟩ = false := frozen_blk Db.out.ev
      have z8 : wb.frozen? ⟨q, 8, none⟩ = false := frozen_blk Db.out.ev
      obtain ⟨wc, ewc⟩ : ∃ x, set9 wb q ⟨Kx, Sl, A, P, [], 0, 0, 0, []⟩ = x := ⟨_, rfl⟩
      have Dwc : Hid (EvDoor w wc n q #[.int .u8 kd, va, vc, vn, .int .u8 sd, .int .u8 tg, .int .i64 wd, .int .u8 od] ⟨Kx, Sl, A, P, [], 0, 0, 0, []⟩) := Lib.hid (by rw [← ewc]; exact Db.out.all ⟨Kx, Sl, A, P, [], 0, 0, 0, []⟩)
      have fwc : (((((((((wb.setCell ⟨q, 0, none⟩ (.int .i64 (Kx))).setCell ⟨q, 1, none⟩ (.int .i64 (Sl))).setCell ⟨q, 2, none⟩ (.string (BT (A)))).setCell ⟨q, 3, none⟩ (.int .i64 (P))).setCell ⟨q, 4, none⟩ (.string ⟨#[]⟩)).setCell ⟨q, 5, none⟩ (.int .i64 (0))).setCell ⟨q, 6, none⟩ (.int .i64 (0))).setCell ⟨q, 7, none⟩ (.int .i64 (0))).setCell ⟨q, 8, none⟩ (.string ⟨#[]⟩)) = wc := ewc
      clear ewc
      refine held_one 17 (by kernel_rfl) rfl (by kernel_rfl) (fun K hK => ?_)
      go_simp
      refine hK _ _ ⟨Dwc.out.act, Dwc.out.res, Dwc.out.low⟩ ?_
      clear hK K
      try simp only [Act.put, nA, nB, nC, nD, nE, nF]
      refine wpAnyH_done (by kernel_rfl) ?_ _
      go_wp2_with fail
      go_meet
      case rel => exact ⟨q, rfl, Dwc.out⟩
    · obtain ⟨q, wb, hq, eb, db⟩ := newbox SD.out.1 SD.out.2.1 SD.out.2.2 hgn
      have Db := Lib.hid db
      clear db
      go_simp
      refine hK _ _ ⟨Db.out.act, Db.out.res, Db.out.low⟩ ?_
      clear hK K
      try simp only [Act.put, nA, nB, nC, nD, nE, nF]
      refine held_call 10 (by kernel_rfl) rfl (by kernel_rfl) (by first | rfl | go_simp) (nA0 _ Db.out.low) ?_ (fun c u h => by cases h.1) (fun u h => by cases h.1)
      rintro v u ⟨he, t⟩
      cases he
      have Du := Lib.hid (Db.out.turn t)
      clear t
      refine ⟨⟨Du.out.act, Du.out.res, Du.out.low⟩, ?_⟩
      try simp only [Act.put, nA, nB, nC, nD, nE, nF]
      refine held_take 15 ?_ rfl (by kernel_rfl) (by kernel_rfl) (by kernel_rfl) (fun _ _ _ h => h) (Or.inl ⟨by kernel_rfl, ?_⟩) ⟨Du.out.act, Du.out.res, Du.out.low⟩ ?_
      rotate_left 1
      · intro u hu; go_simp; first | done | with_reducible rfl
      try simp only [Act.put, nA, nB, nC, nD, nE, nF]
      have y0 : u.cell? ⟨q, 0, none⟩ = some (.int .i64 0) := cell_blk Du.out.ev
      have y1 : u.cell? ⟨q, 1, none⟩ = some (.int .i64 0) := cell_blk Du.out.ev
      have y2 : u.cell? ⟨q, 2, none⟩ = some (.string ⟨#[]⟩) := cell_blk Du.out.ev
      have y3 : u.cell? ⟨q, 3, none⟩ = some (.int .i64 0) := cell_blk Du.out.ev
      have y4 : u.cell? ⟨q, 4, none⟩ = some (.string ⟨#[]⟩) := cell_blk Du.out.ev
      have y5 : u.cell? ⟨q, 5, none⟩ = some (.int .i64 0) := cell_blk Du.out.ev
      have y6 : u.cell? ⟨q, 6, none⟩ = some (.int .i64 0) := cell_blk Du.out.ev
      have y7 : u.cell? ⟨q, 7, none⟩ = some (.int .i64 0) := cell_blk Du.out.ev
      have y8 : u.cell? ⟨q, 8, none⟩ = some (.string ⟨#[]⟩) := cell_blk Du.out.ev
      have z0 : u.frozen? ⟨q, 0, none⟩ = false := frozen_blk Du.out.ev
      have z1 : u.frozen? ⟨q, 1, none⟩ = false := frozen_blk Du.out.ev
      have z2 : u.frozen? ⟨q, 2, none⟩ = false := frozen_blk Du.out.ev
      have z3 : u.frozen? ⟨q, 3, none⟩ = false := frozen_blk Du.out.ev
      have z4 : u.frozen? ⟨q, 4, none⟩ = false := frozen_blk Du.out.ev
      have z5 : u.frozen? ⟨q, 5, none⟩ = false := frozen_blk Du.out.ev
      have z6 : u.frozen? ⟨q, 6, none⟩ = false := frozen_blk Du.out.ev
      have z7 : u.frozen? ⟨q, 7, none⟩ = false := frozen_blk Du.out.ev
      have z8 : u.frozen? ⟨q, 8, none⟩ = false := frozen_blk Du.out.ev
      obtain ⟨wc, ewc⟩ : ∃ x, set9 u q ⟨Kx, Sl, A, P, [], 0, 0, 0, []⟩ = x := ⟨_, rfl⟩
      have Dwc : Hid (EvDoor w wc n q #[.int .u8 kd, va, vc, vn, .int .u8 sd, .int .u8 tg, .int .i64 wd, .int .u8 od] ⟨Kx, Sl, A, P, [], 0, 0, 0, []⟩) := Lib.hid (by rw [← ewc]; exact Du.out.all ⟨Kx, Sl, A, P, [], 0, 0, 0, []⟩)
      have fwc : (((((((((u.setCell ⟨q, 0, none⟩ (.int .i64 (Kx))).setCell ⟨q, 1, none⟩ (.int .i64 (Sl))).setCell ⟨q, 2, none⟩ (.string (BT (A)))).setCell ⟨q, 3, none⟩ (.int .i64 (P))).setCell ⟨q, 4, none⟩ (.string ⟨#[]⟩)).setCell ⟨q, 5, none⟩ (.int .i64 (0))).setCell ⟨q, 6, none⟩ (.int .i64 (0))).setCell ⟨q, 7, none⟩ (.int .i64 (0))).setCell ⟨q, 8, none⟩ (.string ⟨#[]⟩)) = wc := ewc
      clear ewc
      refine held_one 17 (by kernel_rfl) rfl (by kernel_rfl) (fun K hK => ?_)
      go_simp
      refine hK _ _ ⟨Dwc.out.act, Dwc.out.res, Dwc.out.low⟩ ?_
      clear hK K
      try simp only [Act.put, nA, nB, nC, nD, nE, nF]
      refine wpAnyH_done (by kernel_rfl) ?_ _
      go_wp2_with fail
      go_meet
      case rel => exact ⟨q, rfl, Dwc.out⟩
  case rest =>
    obtain ⟨q, rfl, d⟩ := hcut
    have D := Lib.hid d
    clear d
    have y0wc : wc.cell? ⟨q, 0, none⟩ = some (.int .i64 (Kx)) := cell_blk D.out.ev
    go_upto_block 0 with (fail)
    clear y0wc
    go_cut [] from 20 (fun wx => EvDoor w wx n q #[.int .u8 kd, va, vc, vn, .int .u8 sd, .int .u8 tg, .int .i64 wd, .int .u8 od] E)
    case first =>
      rcases HK.out with rfl | rfl | rfl | rfl | rfl | rfl | rfl | rfl | rfl | rfl
      · have a6wc : wc.cell? ⟨n, 6, none⟩ = some (.int .i64 wd) := cell_blk D.out.act
        have y0 : wc.cell? ⟨q, 0, none⟩ = some (.int .i64 (0)) := cell_blk D.out.ev
        have y1 : wc.cell? ⟨q, 1, none⟩ = some (.int .i64 (Sl)) := cell_blk D.out.ev
        have y2 : wc.cell? ⟨q, 2, none⟩ = some (.string (BT (A))) := cell_blk D.out.ev
        have y3 : wc.cell? ⟨q, 3, none⟩ = some (.int .i64 (P)) := cell_blk D.out.ev
        have y4 : wc.cell? ⟨q, 4, none⟩ = some (.string ⟨#[]⟩) := cell_blk D.out.ev
        have y5 : wc.cell? ⟨q, 5, none⟩ = some (.int .i64 (0)) := cell_blk D.out.ev
        have y6 : wc.cell? ⟨q, 6, none⟩ = some (.int .i64 (0)) := cell_blk D.out.ev
        have y7 : wc.cell? ⟨q, 7, none⟩ = some (.int .i64 (0)) := cell_blk D.out.ev
        have y8 : wc.cell? ⟨q, 8, none⟩ = some (.string ⟨#[]⟩) := cell_blk D.out.ev
        have z0 : wc.frozen? ⟨q, 0, none⟩ = false := frozen_blk D.out.ev
        have z1 : wc.frozen? ⟨q, 1, none⟩ = false := frozen_blk D.out.ev
        have z2 : wc.frozen? ⟨q, 2, none⟩ = false := frozen_blk D.out.ev
        have z3 : wc.frozen? ⟨q, 3, none⟩ = false := frozen_blk D.out.ev
        have z4 : wc.frozen? ⟨q, 4, none⟩ = false := frozen_blk D.out.ev
        have z5 : wc.frozen? ⟨q, 5, none⟩ = false := frozen_blk D.out.ev
        have z6 : wc.frozen? ⟨q, 6, none⟩ = false := frozen_blk D.out.ev
        have z7 : wc.frozen? ⟨q, 7, none⟩ = false := frozen_blk D.out.ev
        have z8 : wc.frozen? ⟨q, 8, none⟩ = false := frozen_blk D.out.ev
        obtain ⟨wn, ewn⟩ : ∃ x, set9 wc q ⟨0, wd, [], 0, [], 0, 0, 0, []⟩ = x := ⟨_, rfl⟩
        have Dwn : Hid (EvDoor w wn n q #[.int .u8 kd, va, vc, vn, .int .u8 sd, .int .u8 tg, .int .i64 wd, .int .u8 od] ⟨0, wd, [], 0, [], 0, 0, 0, []⟩) := Lib.hid (by rw [← ewn]; exact D.out.all ⟨0, wd, [], 0, [], 0, 0, 0, []⟩)
        have fwn : (((((((((wc.setCell ⟨q, 0, none⟩ (.int .i64 (0))).setCell ⟨q, 1, none⟩ (.int .i64 (wd))).setCell ⟨q, 2, none⟩ (.string ⟨#[]⟩)).setCell ⟨q, 3, none⟩ (.int .i64 (0))).setCell ⟨q, 4, none⟩ (.string ⟨#[]⟩)).setCell ⟨q, 5, none⟩ (.int .i64 (0))).setCell ⟨q, 6, none⟩ (.int .i64 (0))).setCell ⟨q, 7, none⟩ (.int .i64 (0))).setCell ⟨q, 8, none⟩ (.string ⟨#[]⟩)) = wn := ewn
        clear ewn
        go_wp2_with fail
        go_meet
        case rel => exact Dwn.out.as (Eq.trans (by first | rfl | (unfold baseE; simp)) HE.out)
      · go_wp2_with fail
        go_meet
        case rel => exact D.out.as (Eq.trans (by first | rfl | (unfold baseE; simp)) HE.out)
      · rcases HT.out with rfl | rfl | rfl
        · have a2wc : wc.cell? ⟨n, 2, none⟩ = some (vc) := cell_blk D.out.act
          go_wp2_with fail
          refine (nC1 _ D.out.low).mono ?_
          rintro e w4 ⟨rfl, t⟩
          have D4 := Lib.hid (D.out.turn t)
          clear t a2wc
          have y4w4 : w4.cell? ⟨q, 4, none⟩ = some (.string ⟨#[]⟩) := cell_blk D4.out.ev
          have z4w4 : w4.frozen? ⟨q, 4, none⟩ = false := frozen_blk D4.out.ev
          obtain ⟨w5, ew5⟩ : ∃ x, w4.setCell ⟨q, 4, none⟩ (.string (BT C)) = x := ⟨_, rfl⟩
          have Dw5 : Hid (EvDoor w w5 n q #[.int .u8 kd, va, vc, vn, .int .u8 sd, .int .u8 tg, .int .i64 wd, .int .u8 od] ⟨2, Sl, A, P, C, 0, 0, 0, []⟩) := Lib.hid (by rw [← ew5]; exact D4.out.set 4 (.string (BT C)) rfl)
          have a4w5 : w5.cell? ⟨n, 4, none⟩ = some (.int .u8 sd) := cell_blk Dw5.out.act
          have y5w5 : w5.cell? ⟨q, 5, none⟩ = some (.int .i64 (0)) := cell_blk Dw5.out.ev
          have z5w5 : w5.frozen? ⟨q, 5, none⟩ = false := frozen_blk Dw5.out.ev
          obtain ⟨w6, ew6⟩ : ∃ x, w5.setCell ⟨q, 5, none⟩ (.int .i64 S2) = x := ⟨_, rfl⟩
          have Dw6 : Hid (EvDoor w w6 n q #[.int .u8 kd, va, vc, vn, .int .u8 sd, .int .u8 tg, .int .i64 wd, .int .u8 od] ⟨2, Sl, A, P, C, S2, 0, 0, []⟩) := Lib.hid (by rw [← ew6]; exact Dw5.out.set 5 (.int .i64 S2) rfl)
          have a5w6 : w6.cell? ⟨n, 5, none⟩ = some (.int .u8 tg) := cell_blk Dw6.out.act
          have y6w6 : w6.cell? ⟨q, 6, none⟩ = some (.int .i64 (0)) := cell_blk Dw6.out.ev
          have z6w6 : w6.frozen? ⟨q, 6, none⟩ = false := frozen_blk Dw6.out.ev
          obtain ⟨w7, ew7⟩ : ∃ x, w6.setCell ⟨q, 6, none⟩ (.int .i64 (0)) = x := ⟨_, rfl⟩
          have Dw7 : Hid (EvDoor w w7 n q #[.int .u8 kd, va, vc, vn, .int .u8 sd, .int .u8 tg, .int .i64 wd, .int .u8 od] ⟨2, Sl, A, P, C, S2, 0, 0, []⟩) := Lib.hid (by rw [← ew7]; exact Dw6.out.set 6 (.int .i64 (0)) rfl)
          have a6w7 : w7.cell? ⟨n, 6, none⟩ = some (.int .i64 wd) := cell_blk Dw7.out.act
          have y7w7 : w7.cell? ⟨q, 7, none⟩ = some (.int .i64 (0)) := cell_blk Dw7.out.ev
          have z7w7 : w7.frozen? ⟨q, 7, none⟩ = false := frozen_blk Dw7.out.ev
          obtain ⟨w8, ew8⟩ : ∃ x, w7.setCell ⟨q, 7, none⟩ (.int .i64 wd) = x := ⟨_, rfl⟩
          have Dw8 : Hid (EvDoor w w8 n q #[.int .u8 kd, va, vc, vn, .int .u8 sd, .int .u8 tg, .int .i64 wd, .int .u8 od] ⟨2, Sl, A, P, C, S2, 0, wd, []⟩) := Lib.hid (by rw [← ew8]; exact Dw7.out.set 7 (.int .i64 wd) rfl)
          have y6w8 : w8.cell? ⟨q, 6, none⟩ = some (.int .i64 (0)) := cell_blk Dw8.out.ev
          go_wp2_with fail
          go_meet
          case rel => exact Dw8.out.as (Eq.trans (by first | rfl | (unfold baseE; simp)) HE.out)
        · have a2wc : wc.cell? ⟨n, 2, none⟩ = some (vc) := cell_blk D.out.act
          go_wp2_with fail
          refine (nC1 _ D.out.low).mono ?_
          rintro e w4 ⟨rfl, t⟩
          have D4 := Lib.hid (D.out.turn t)
          clear t a2wc
          have y4w4 : w4.cell? ⟨q, 4, none⟩ = some (.string ⟨#[]⟩) := cell_blk D4.out.ev
          have z4w4 : w4.frozen? ⟨q, 4, none⟩ = false := frozen_blk D4.out.ev
          obtain ⟨w5, ew5⟩ : ∃ x, w4.setCell ⟨q, 4, none⟩ (.string (BT C)) = x := ⟨_, rfl⟩
          have Dw5 : Hid (EvDoor w w5 n q #[.int .u8 kd, va, vc, vn, .int .u8 sd, .int .u8 tg, .int .i64 wd, .int .u8 od] ⟨2, Sl, A, P, C, 0, 0, 0, []⟩) := Lib.hid (by rw [← ew5]; exact D4.out.set 4 (.string (BT C)) rfl)
          have a4w5 : w5.cell? ⟨n, 4, none⟩ = some (.int .u8 sd) := cell_blk Dw5.out.act
          have y5w5 : w5.cell? ⟨q, 5, none⟩ = some (.int .i64 (0)) := cell_blk Dw5.out.ev
          have z5w5 : w5.frozen? ⟨q, 5, none⟩ = false := frozen_blk Dw5.out.ev
          obtain ⟨w6, ew6⟩ : ∃ x, w5.setCell ⟨q, 5, none⟩ (.int .i64 S2) = x := ⟨_, rfl⟩
          have Dw6 : Hid (EvDoor w w6 n q #[.int .u8 kd, va, vc, vn, .int .u8 sd, .int .u8 tg, .int .i64 wd, .int .u8 od] ⟨2, Sl, A, P, C, S2, 0, 0, []⟩) := Lib.hid (by rw [← ew6]; exact Dw5.out.set 5 (.int .i64 S2) rfl)
          have a5w6 : w6.cell? ⟨n, 5, none⟩ = some (.int .u8 tg) := cell_blk Dw6.out.act
          have y6w6 : w6.cell? ⟨q, 6, none⟩ = some (.int .i64 (0)) := cell_blk Dw6.out.ev
          have z6w6 : w6.frozen? ⟨q, 6, none⟩ = false := frozen_blk Dw6.out.ev
          obtain ⟨w7, ew7⟩ : ∃ x, w6.setCell ⟨q, 6, none⟩ (.int .i64 (1)) = x := ⟨_, rfl⟩
          have Dw7 : Hid (EvDoor w w7 n q #[.int .u8 kd, va, vc, vn, .int .u8 sd, .int .u8 tg, .int .i64 wd, .int .u8 od] ⟨2, Sl, A, P, C, S2, 1, 0, []⟩) := Lib.hid (by rw [← ew7]; exact Dw6.out.set 6 (.int .i64 (1)) rfl)
          have a6w7 : w7.cell? ⟨n, 6, none⟩ = some (.int .i64 wd) := cell_blk Dw7.out.act
          have y7w7 : w7.cell? ⟨q, 7, none⟩ = some (.int .i64 (0)) := cell_blk Dw7.out.ev
          have z7w7 : w7.frozen? ⟨q, 7, none⟩ = false := frozen_blk Dw7.out.ev
          obtain ⟨w8, ew8⟩ : ∃ x, w7.setCell ⟨q, 7, none⟩ (.int .i64 wd) = x := ⟨_, rfl⟩
          have Dw8 : Hid (EvDoor w w8 n q #[.int .u8 kd, va, vc, vn, .int .u8 sd, .int .u8 tg, .int .i64 wd, .int .u8 od] ⟨2, Sl, A, P, C, S2, 1, wd, []⟩) := Lib.hid (by rw [← ew8]; exact Dw7.out.set 7 (.int .i64 wd) rfl)
          have y6w8 : w8.cell? ⟨q, 6, none⟩ = some (.int .i64 (1)) := cell_blk Dw8.out.ev
          have a4w8 : w8.cell? ⟨n, 4, none⟩ = some (.int .u8 sd) := cell_blk Dw8.out.act
          have y7w8 : w8.cell? ⟨q, 7, none⟩ = some (.int .i64 (wd)) := cell_blk Dw8.out.ev
          have z7w8 : w8.frozen? ⟨q, 7, none⟩ = false := frozen_blk Dw8.out.ev
          obtain ⟨w9, ew9⟩ : ∃ x, w8.setCell ⟨q, 7, none⟩ (.int .i64 S8) = x := ⟨_, rfl⟩
          have Dw9 : Hid (EvDoor w w9 n q #[.int .u8 kd, va, vc, vn, .int .u8 sd, .int .u8 tg, .int .i64 wd, .int .u8 od] ⟨2, Sl, A, P, C, S2, 1, S8, []⟩) := Lib.hid (by rw [← ew9]; exact Dw8.out.set 7 (.int .i64 S8) rfl)
          have y6w9 : w9.cell? ⟨q, 6, none⟩ = some (.int .i64 (1)) := cell_blk Dw9.out.ev
          go_wp2_with fail
          go_meet
          case rel => exact Dw9.out.as (Eq.trans (by first | rfl | (unfold baseE; simp)) HE.out)
        · have a2wc : wc.cell? ⟨n, 2, none⟩ = some (vc) := cell_blk D.out.act
          go_wp2_with fail
          refine (nC1 _ D.out.low).mono ?_
          rintro e w4 ⟨rfl, t⟩
          have D4 := Lib.hid (D.out.turn t)
          clear t a2wc
          have y4w4 : w4.cell? ⟨q, 4, none⟩ = some (.string ⟨#[]⟩) := cell_blk D4.out.ev
          have z4w4 : w4.frozen? ⟨q, 4, none⟩ = false := frozen_blk D4.out.ev
          obtain ⟨w5, ew5⟩ : ∃ x, w4.setCell ⟨q, 4, none⟩ (.string (BT C)) = x := ⟨_, rfl⟩
          have Dw5 : Hid (EvDoor w w5 n q #[.int .u8 kd, va, vc, vn, .int .u8 sd, .int .u8 tg, .int .i64 wd, .int .u8 od] ⟨2, Sl, A, P, C, 0, 0, 0, []⟩) := Lib.hid (by rw [← ew5]; exact D4.out.set 4 (.string (BT C)) rfl)
          have a4w5 : w5.cell? ⟨n, 4, none⟩ = some (.int .u8 sd) := cell_blk Dw5.out.act
          have y5w5 : w5.cell? ⟨q, 5, none⟩ = some (.int .i64 (0)) := cell_blk Dw5.out.ev
          have z5w5 : w5.frozen? ⟨q, 5, none⟩ = false := frozen_blk Dw5.out.ev
          obtain ⟨w6, ew6⟩ : ∃ x, w5.setCell ⟨q, 5, none⟩ (.int .i64 S2) = x := ⟨_, rfl⟩
          have Dw6 : Hid (EvDoor w w6 n q #[.int .u8 kd, va, vc, vn, .int .u8 sd, .int .u8 tg, .int .i64 wd, .int .u8 od] ⟨2, Sl, A, P, C, S2, 0, 0, []⟩) := Lib.hid (by rw [← ew6]; exact Dw5.out.set 5 (.int .i64 S2) rfl)
          have a5w6 : w6.cell? ⟨n, 5, none⟩ = some (.int .u8 tg) := cell_blk Dw6.out.act
          have y6w6 : w6.cell? ⟨q, 6, none⟩ = some (.int .i64 (0)) := cell_blk Dw6.out.ev
          have z6w6 : w6.frozen? ⟨q, 6, none⟩ = false := frozen_blk Dw6.out.ev
          obtain ⟨w7, ew7⟩ : ∃ x, w6.setCell ⟨q, 6, none⟩ (.int .i64 (2)) = x := ⟨_, rfl⟩
          have Dw7 : Hid (EvDoor w w7 n q #[.int .u8 kd, va, vc, vn, .int .u8 sd, .int .u8 tg, .int .i64 wd, .int .u8 od] ⟨2, Sl, A, P, C, S2, 2, 0, []⟩) := Lib.hid (by rw [← ew7]; exact Dw6.out.set 6 (.int .i64 (2)) rfl)
          have a6w7 : w7.cell? ⟨n, 6, none⟩ = some (.int .i64 wd) := cell_blk Dw7.out.act
          have y7w7 : w7.cell? ⟨q, 7, none⟩ = some (.int .i64 (0)) := cell_blk Dw7.out.ev
          have z7w7 : w7.frozen? ⟨q, 7, none⟩ = false := frozen_blk Dw7.out.ev
          obtain ⟨w8, ew8⟩ : ∃ x, w7.setCell ⟨q, 7, none⟩ (.int .i64 wd) = x := ⟨_, rfl⟩
          have Dw8 : Hid (EvDoor w w8 n q #[.int .u8 kd, va, vc, vn, .int .u8 sd, .int .u8 tg, .int .i64 wd, .int .u8 od] ⟨2, Sl, A, P, C, S2, 2, wd, []⟩) := Lib.hid (by rw [← ew8]; exact Dw7.out.set 7 (.int .i64 wd) rfl)
          have y6w8 : w8.cell? ⟨q, 6, none⟩ = some (.int .i64 (2)) := cell_blk Dw8.out.ev
          have y7w8 : w8.cell? ⟨q, 7, none⟩ = some (.int .i64 (wd)) := cell_blk Dw8.out.ev
          have z7w8 : w8.frozen? ⟨q, 7, none⟩ = false := frozen_blk Dw8.out.ev
          obtain ⟨w9, ew9⟩ : ∃ x, w8.setCell ⟨q, 7, none⟩ (.int .i64 0) = x := ⟨_, rfl⟩
          have Dw9 : Hid (EvDoor w w9 n q #[.int .u8 kd, va, vc, vn, .int .u8 sd, .int .u8 tg, .int .i64 wd, .int .u8 od] ⟨2, Sl, A, P, C, S2, 2, 0, []⟩) := Lib.hid (by rw [← ew9]; exact Dw8.out.set 7 (.int .i64 0) rfl)
          have a3w9 : w9.cell? ⟨n, 3, none⟩ = some (vn) := cell_blk Dw9.out.act
          go_wp2_with fail
          refine (nN2 _ Dw9.out.low).mono ?_
          rintro e w10 ⟨rfl, t⟩
          have D10 := Lib.hid (Dw9.out.turn t)
          clear t
          have y8w10 : w10.cell? ⟨q, 8, none⟩ = some (.string ⟨#[]⟩) := cell_blk D10.out.ev
          have z8w10 : w10.frozen? ⟨q, 8, none⟩ = false := frozen_blk D10.out.ev
          obtain ⟨w11, ew11⟩ : ∃ x, w10.setCell ⟨q, 8, none⟩ (.string (BT N2)) = x := ⟨_, rfl⟩
          have Dw11 : Hid (EvDoor w w11 n q #[.int .u8 kd, va, vc, vn, .int .u8 sd, .int .u8 tg, .int .i64 wd, .int .u8 od] ⟨2, Sl, A, P, C, S2, 2, 0, N2⟩) := Lib.hid (by rw [← ew11]; exact D10.out.set 8 (.string (BT N2)) rfl)
          go_wp2_with fail
          go_meet
          case rel => exact Dw11.out.as (Eq.trans (by first | rfl | (unfold baseE; simp)) HE.out)
      · rcases HT.out with rfl | rfl | rfl
        · have a2wc : wc.cell? ⟨n, 2, none⟩ = some (vc) := cell_blk D.out.act
          go_wp2_with fail
          refine (nC1 _ D.out.low).mono ?_
          rintro e w4 ⟨rfl, t⟩
          have D4 := Lib.hid (D.out.turn t)
          clear t a2wc
          have y4w4 : w4.cell? ⟨q, 4, none⟩ = some (.string ⟨#[]⟩) := cell_blk D4.out.ev
          have z4w4 : w4.frozen? ⟨q, 4, none⟩ = false := frozen_blk D4.out.ev
          obtain ⟨w5, ew5⟩ : ∃ x, w4.setCell ⟨q, 4, none⟩ (.string (BT C)) = x := ⟨_, rfl⟩
          have Dw5 : Hid (EvDoor w w5 n q #[.int .u8 kd, va, vc, vn, .int .u8 sd, .int .u8 tg, .int .i64 wd, .int .u8 od] ⟨3, Sl, A, P, C, 0, 0, 0, []⟩) := Lib.hid (by rw [← ew5]; exact D4.out.set 4 (.string (BT C)) rfl)
          have a4w5 : w5.cell? ⟨n, 4, none⟩ = some (.int .u8 sd) := cell_blk Dw5.out.act
          have y5w5 : w5.cell? ⟨q, 5, none⟩ = some (.int .i64 (0)) := cell_blk Dw5.out.ev
          have z5w5 : w5.frozen? ⟨q, 5, none⟩ = false := frozen_blk Dw5.out.ev
          obtain ⟨w6, ew6⟩ : ∃ x, w5.setCell ⟨q, 5, none⟩ (.int .i64 S2) = x := ⟨_, rfl⟩
          have Dw6 : Hid (EvDoor w w6 n q #[.int .u8 kd, va, vc, vn, .int .u8 sd, .int .u8 tg, .int .i64 wd, .int .u8 od] ⟨3, Sl, A, P, C, S2, 0, 0, []⟩) := Lib.hid (by rw [← ew6]; exact Dw5.out.set 5 (.int .i64 S2) rfl)
          have a5w6 : w6.cell? ⟨n, 5, none⟩ = some (.int .u8 tg) := cell_blk Dw6.out.act
          have y6w6 : w6.cell? ⟨q, 6, none⟩ = some (.int .i64 (0)) := cell_blk Dw6.out.ev
          have z6w6 : w6.frozen? ⟨q, 6, none⟩ = false := frozen_blk Dw6.out.ev
          obtain ⟨w7, ew7⟩ : ∃ x, w6.setCell ⟨q, 6, none⟩ (.int .i64 (0)) = x := ⟨_, rfl⟩
          have Dw7 : Hid (EvDoor w w7 n q #[.int .u8 kd, va, vc, vn, .int .u8 sd, .int .u8 tg, .int .i64 wd, .int .u8 od] ⟨3, Sl, A, P, C, S2, 0, 0, []⟩) := Lib.hid (by rw [← ew7]; exact Dw6.out.set 6 (.int .i64 (0)) rfl)
          have a6w7 : w7.cell? ⟨n, 6, none⟩ = some (.int .i64 wd) := cell_blk Dw7.out.act
          have y7w7 : w7.cell? ⟨q, 7, none⟩ = some (.int .i64 (0)) := cell_blk Dw7.out.ev
          have z7w7 : w7.frozen? ⟨q, 7, none⟩ = false := frozen_blk Dw7.out.ev
          obtain ⟨w8, ew8⟩ : ∃ x, w7.setCell ⟨q, 7, none⟩ (.int .i64 wd) = x := ⟨_, rfl⟩
          have Dw8 : Hid (EvDoor w w8 n q #[.int .u8 kd, va, vc, vn, .int .u8 sd, .int .u8 tg, .int .i64 wd, .int .u8 od] ⟨3, Sl, A, P, C, S2, 0, wd, []⟩) := Lib.hid (by rw [← ew8]; exact Dw7.out.set 7 (.int .i64 wd) rfl)
          have y6w8 : w8.cell? ⟨q, 6, none⟩ = some (.int .i64 (0)) := cell_blk Dw8.out.ev
          go_wp2_with fail
          go_meet
          case rel => exact Dw8.out.as (Eq.trans (by first | rfl | (unfold baseE; simp)) HE.out)
        · have a2wc : wc.cell? ⟨n, 2, none⟩ = some (vc) := cell_blk D.out.act
          go_wp2_with fail
          refine (nC1 _ D.out.low).mono ?_
          rintro e w4 ⟨rfl, t⟩
          have D4 := Lib.hid (D.out.turn t)
          clear t a2wc
          have y4w4 : w4.cell? ⟨q, 4, none⟩ = some (.string ⟨#[]⟩) := cell_blk D4.out.ev
          have z4w4 : w4.frozen? ⟨q, 4, none⟩ = false := frozen_blk D4.out.ev
          obtain ⟨w5, ew5⟩ : ∃ x, w4.setCell ⟨q, 4, none⟩ (.string (BT C)) = x := ⟨_, rfl⟩
          have Dw5 : Hid (EvDoor w w5 n q #[.int .u8 kd, va, vc, vn, .int .u8 sd, .int .u8 tg, .int .i64 wd, .int .u8 od] ⟨3, Sl, A, P, C, 0, 0, 0, []⟩) := Lib.hid (by rw [← ew5]; exact D4.out.set 4 (.string (BT C)) rfl)
          have a4w5 : w5.cell? ⟨n, 4, none⟩ = some (.int .u8 sd) := cell_blk Dw5.out.act
          have y5w5 : w5.cell? ⟨q, 5, none⟩ = some (.int .i64 (0)) := cell_blk Dw5.out.ev
          have z5w5 : w5.frozen? ⟨q, 5, none⟩ = false := frozen_blk Dw5.out.ev
          obtain ⟨w6, ew6⟩ : ∃ x, w5.setCell ⟨q, 5, none⟩ (.int .i64 S2) = x := ⟨_, rfl⟩
          have Dw6 : Hid (EvDoor w w6 n q #[.int .u8 kd, va, vc, vn, .int .u8 sd, .int .u8 tg, .int .i64 wd, .int .u8 od] ⟨3, Sl, A, P, C, S2, 0, 0, []⟩) := Lib.hid (by rw [← ew6]; exact Dw5.out.set 5 (.int .i64 S2) rfl)
          have a5w6 : w6.cell? ⟨n, 5, none⟩ = some (.int .u8 tg) := cell_blk Dw6.out.act
          have y6w6 : w6.cell? ⟨q, 6, none⟩ = some (.int .i64 (0)) := cell_blk Dw6.out.ev
          have z6w6 : w6.frozen? ⟨q, 6, none⟩ = false := frozen_blk Dw6.out.ev
          obtain ⟨w7, ew7⟩ : ∃ x, w6.setCell ⟨q, 6, none⟩ (.int .i64 (1)) = x := ⟨_, rfl⟩
          have Dw7 : Hid (EvDoor w w7 n q #[.int .u8 kd, va, vc, vn, .int .u8 sd, .int .u8 tg, .int .i64 wd, .int .u8 od] ⟨3, Sl, A, P, C, S2, 1, 0, []⟩) := Lib.hid (by rw [← ew7]; exact Dw6.out.set 6 (.int .i64 (1)) rfl)
          have a6w7 : w7.cell? ⟨n, 6, none⟩ = some (.int .i64 wd) := cell_blk Dw7.out.act
          have y7w7 : w7.cell? ⟨q, 7, none⟩ = some (.int .i64 (0)) := cell_blk Dw7.out.ev
          have z7w7 : w7.frozen? ⟨q, 7, none⟩ = false := frozen_blk Dw7.out.ev
          obtain ⟨w8, ew8⟩ : ∃ x, w7.setCell ⟨q, 7, none⟩ (.int .i64 wd) = x := ⟨_, rfl⟩
          have Dw8 : Hid (EvDoor w w8 n q #[.int .u8 kd, va, vc, vn, .int .u8 sd, .int .u8 tg, .int .i64 wd, .int .u8 od] ⟨3, Sl, A, P, C, S2, 1, wd, []⟩) := Lib.hid (by rw [← ew8]; exact Dw7.out.set 7 (.int .i64 wd) rfl)
          have y6w8 : w8.cell? ⟨q, 6, none⟩ = some (.int .i64 (1)) := cell_blk Dw8.out.ev
          have a4w8 : w8.cell? ⟨n, 4, none⟩ = some (.int .u8 sd) := cell_blk Dw8.out.act
          have y7w8 : w8.cell? ⟨q, 7, none⟩ = some (.int .i64 (wd)) := cell_blk Dw8.out.ev
          have z7w8 : w8.frozen? ⟨q, 7, none⟩ = false := frozen_blk Dw8.out.ev
          obtain ⟨w9, ew9⟩ : ∃ x, w8.setCell ⟨q, 7, none⟩ (.int .i64 S8) = x := ⟨_, rfl⟩
          have Dw9 : Hid (EvDoor w w9 n q #[.int .u8 kd, va, vc, vn, .int .u8 sd, .int .u8 tg, .int .i64 wd, .int .u8 od] ⟨3, Sl, A, P, C, S2, 1, S8, []⟩) := Lib.hid (by rw [← ew9]; exact Dw8.out.set 7 (.int .i64 S8) rfl)
          have y6w9 : w9.cell? ⟨q, 6, none⟩ = some (.int .i64 (1)) := cell_blk Dw9.out.ev
          go_wp2_with fail
          go_meet
          case rel => exact Dw9.out.as (Eq.trans (by first | rfl | (unfold baseE; simp)) HE.out)
        · have a2wc : wc.cell? ⟨n, 2, none⟩ = some (vc) := cell_blk D.out.act
          go_wp2_with fail
          refine (nC1 _ D.out.low).mono ?_
          rintro e w4 ⟨rfl, t⟩
          have D4 := Lib.hid (D.out.turn t)
          clear t a2wc
          have y4w4 : w4.cell? ⟨q, 4, none⟩ = some (.string ⟨#[]⟩) := cell_blk D4.out.ev
          have z4w4 : w4.frozen? ⟨q, 4, none⟩ = false := frozen_blk D4.out.ev
          obtain ⟨w5, ew5⟩ : ∃ x, w4.setCell ⟨q, 4, none⟩ (.string (BT C)) = x := ⟨_, rfl⟩
          have Dw5 : Hid (EvDoor w w5 n q #[.int .u8 kd, va, vc, vn, .int .u8 sd, .int .u8 tg, .int .i64 wd, .int .u8 od] ⟨3, Sl, A, P, C, 0, 0, 0, []⟩) := Lib.hid (by rw [← ew5]; exact D4.out.set 4 (.string (BT C)) rfl)
          have a4w5 : w5.cell? ⟨n, 4, none⟩ = some (.int .u8 sd) := cell_blk Dw5.out.act
          have y5w5 : w5.cell? ⟨q, 5, none⟩ = some (.int .i64 (0)) := cell_blk Dw5.out.ev
          have z5w5 : w5.frozen? ⟨q, 5, none⟩ = false := frozen_blk Dw5.out.ev
          obtain ⟨w6, ew6⟩ : ∃ x, w5.setCell ⟨q, 5, none⟩ (.int .i64 S2) = x := ⟨_, rfl⟩
          have Dw6 : Hid (EvDoor w w6 n q #[.int .u8 kd, va, vc, vn, .int .u8 sd, .int .u8 tg, .int .i64 wd, .int .u8 od] ⟨3, Sl, A, P, C, S2, 0, 0, []⟩) := Lib.hid (by rw [← ew6]; exact Dw5.out.set 5 (.int .i64 S2) rfl)
          have a5w6 : w6.cell? ⟨n, 5, none⟩ = some (.int .u8 tg) := cell_blk Dw6.out.act
          have y6w6 : w6.cell? ⟨q, 6, none⟩ = some (.int .i64 (0)) := cell_blk Dw6.out.ev
          have z6w6 : w6.frozen? ⟨q, 6, none⟩ = false := frozen_blk Dw6.out.ev
          obtain ⟨w7, ew7⟩ : ∃ x, w6.setCell ⟨q, 6, none⟩ (.int .i64 (2)) = x := ⟨_, rfl⟩
          have Dw7 : Hid (EvDoor w w7 n q #[.int .u8 kd, va, vc, vn, .int .u8 sd, .int .u8 tg, .int .i64 wd, .int .u8 od] ⟨3, Sl, A, P, C, S2, 2, 0, []⟩) := Lib.hid (by rw [← ew7]; exact Dw6.out.set 6 (.int .i64 (2)) rfl)
          have a6w7 : w7.cell? ⟨n, 6, none⟩ = some (.int .i64 wd) := cell_blk Dw7.out.act
          have y7w7 : w7.cell? ⟨q, 7, none⟩ = some (.int .i64 (0)) := cell_blk Dw7.out.ev
          have z7w7 : w7.frozen? ⟨q, 7, none⟩ = false := frozen_blk Dw7.out.ev
          obtain ⟨w8, ew8⟩ : ∃ x, w7.setCell ⟨q, 7, none⟩ (.int .i64 wd) = x := ⟨_, rfl⟩
          have Dw8 : Hid (EvDoor w w8 n q #[.int .u8 kd, va, vc, vn, .int .u8 sd, .int .u8 tg, .int .i64 wd, .int .u8 od] ⟨3, Sl, A, P, C, S2, 2, wd, []⟩) := Lib.hid (by rw [← ew8]; exact Dw7.out.set 7 (.int .i64 wd) rfl)
          have y6w8 : w8.cell? ⟨q, 6, none⟩ = some (.int .i64 (2)) := cell_blk Dw8.out.ev
          have y7w8 : w8.cell? ⟨q, 7, none⟩ = some (.int .i64 (wd)) := cell_blk Dw8.out.ev
          have z7w8 : w8.frozen? ⟨q, 7, none⟩ = false := frozen_blk Dw8.out.ev
          obtain ⟨w9, ew9⟩ : ∃ x, w8.setCell ⟨q, 7, none⟩ (.int .i64 0) = x := ⟨_, rfl⟩
          have Dw9 : Hid (EvDoor w w9 n q #[.int .u8 kd, va, vc, vn, .int .u8 sd, .int .u8 tg, .int .i64 wd, .int .u8 od] ⟨3, Sl, A, P, C, S2, 2, 0, []⟩) := Lib.hid (by rw [← ew9]; exact Dw8.out.set 7 (.int .i64 0) rfl)
          have a3w9 : w9.cell? ⟨n, 3, none⟩ = some (vn) := cell_blk Dw9.out.act
          go_wp2_with fail
          refine (nN2 _ Dw9.out.low).mono ?_
          rintro e w10 ⟨rfl, t⟩
          have D10 := Lib.hid (Dw9.out.turn t)
          clear t
          have y8w10 : w10.cell? ⟨q, 8, none⟩ = some (.string ⟨#[]⟩) := cell_blk D10.out.ev
          have z8w10 : w10.frozen? ⟨q, 8, none⟩ = false := frozen_blk D10.out.ev
          obtain ⟨w11, ew11⟩ : ∃ x, w10.setCell ⟨q, 8, none⟩ (.string (BT N2)) = x := ⟨_, rfl⟩
          have Dw11 : Hid (EvDoor w w11 n q #[.int .u8 kd, va, vc, vn, .int .u8 sd, .int .u8 tg, .int .i64 wd, .int .u8 od] ⟨3, Sl, A, P, C, S2, 2, 0, N2⟩) := Lib.hid (by rw [← ew11]; exact D10.out.set 8 (.string (BT N2)) rfl)
          go_wp2_with fail
          go_meet
          case rel => exact Dw11.out.as (Eq.trans (by first | rfl | (unfold baseE; simp)) HE.out)
      · have a6wc : wc.cell? ⟨n, 6, none⟩ = some (.int .i64 wd) := cell_blk D.out.act
        have y7wc : wc.cell? ⟨q, 7, none⟩ = some (.int .i64 (0)) := cell_blk D.out.ev
        have z7wc : wc.frozen? ⟨q, 7, none⟩ = false := frozen_blk D.out.ev
        obtain ⟨wn, ewn⟩ : ∃ x, wc.setCell ⟨q, 7, none⟩ (.int .i64 wd) = x := ⟨_, rfl⟩
        have Dwn : Hid (EvDoor w wn n q #[.int .u8 kd, va, vc, vn, .int .u8 sd, .int .u8 tg, .int .i64 wd, .int .u8 od] ⟨4, Sl, A, P, [], 0, 0, wd, []⟩) := Lib.hid (by rw [← ewn]; exact D.out.set 7 (.int .i64 wd) rfl)
        go_wp2_with fail
        go_meet
        case rel => exact Dwn.out.as (Eq.trans (by first | rfl | (unfold baseE; simp)) HE.out)
      · have hlA := HLA.out
        have hlD := HLD.out
        have hcat1 : ∀ W, (Op.stringOp .add (BT A) ⟨#[43]⟩).run Tryz.prog W = .ok (.string (BT (A ++ [43]))) W := fun W => cat_run (b := [43]) (by simp; omega) W
        have hcat2 : ∀ W, (Op.stringOp .add (BT (A ++ [43])) (BT DS)).run Tryz.prog W = .ok (.string (BT (A ++ 43 :: DS))) W := fun W => by
          rw [cat_run (by simp; omega) W]
          simp
        clear hlA hlD
        go_upto_region 8 with (fail)
        refine held_begin (fun u => u.cell? ⟨q, 2, none⟩ = some (.string (BT A)) ∧ u.cell? ⟨n, 4, none⟩ = some (.int .u8 sd)) (by kernel_rfl) ?_
        have DD : Hid (EvDoor w wc.drew n q #[.int .u8 kd, va, vc, vn, .int .u8 sd, .int .u8 tg, .int .i64 wd, .int .u8 od] ⟨5, Sl, A, P, [], 0, 0, 0, []⟩) := Lib.hid (D.out.turn (Turn.refl Nn wc).drew)
        generalize World.drew wc = ws at DD ⊢
        refine held_take 0 ?_ rfl (by kernel_rfl) (by kernel_rfl) (by kernel_rfl) (fun _ _ _ h => h) (Or.inl ⟨by kernel_rfl, ?_⟩) ⟨cell_blk DD.out.ev, cell_blk DD.out.act⟩ ?_
        rotate_left 1
        · intro u hu; obtain ⟨y2, a4⟩ := hu; go_simp; first | done | with_reducible rfl
        try simp only [Act.put, nA, nB, nC, nD, nE, nF]
        refine held_take 1 ?_ rfl (by kernel_rfl) (by kernel_rfl) (by kernel_rfl) (fun _ _ _ h => h) (Or.inl ⟨by kernel_rfl, ?_⟩) ⟨cell_blk DD.out.ev, cell_blk DD.out.act⟩ ?_
        rotate_left 1
        · intro u hu; obtain ⟨y2, a4⟩ := hu; go_simp; first | done | with_reducible rfl
        try simp only [Act.put, nA, nB, nC, nD, nE, nF]
        refine held_take 2 ?_ rfl (by kernel_rfl) (by kernel_rfl) (by kernel_rfl) (fun _ _ _ h => h) (Or.inl ⟨by kernel_rfl, ?_⟩) ⟨cell_blk DD.out.ev, cell_blk DD.out.act⟩ ?_
        rotate_left 1
        · intro u hu; obtain ⟨y2, a4⟩ := hu; go_simp; first | done | with_reducible rfl
        try simp only [Act.put, nA, nB, nC, nD, nE, nF]
        refine held_take 3 ?_ rfl (by kernel_rfl) (by kernel_rfl) (by kernel_rfl) (fun _ _ _ h => h) (Or.inl ⟨by kernel_rfl, ?_⟩) ⟨cell_blk DD.out.ev, cell_blk DD.out.act⟩ ?_
        rotate_left 1
        · intro u hu; obtain ⟨y2, a4⟩ := hu; go_simp; first | done | with_reducible rfl
        try simp only [Act.put, nA, nB, nC, nD, nE, nF]
        refine held_take 4 ?_ rfl (by kernel_rfl) (by kernel_rfl) (by kernel_rfl) (fun _ _ _ h => h) (Or.inl ⟨by kernel_rfl, ?_⟩) ⟨cell_blk DD.out.ev, cell_blk DD.out.act⟩ ?_
        rotate_left 1
        · intro u hu; obtain ⟨y2, a4⟩ := hu; go_simp; first | done | with_reducible rfl
        try simp only [Act.put, nA, nB, nC, nD, nE, nF]
        refine held_call 5 (by kernel_rfl) rfl (by kernel_rfl) (by first | rfl | go_simp) (dS _ DD.out.low) ?_ (fun c u h => by cases h.1) (fun u h => by cases h.1)
        rintro v w4 ⟨he, t⟩
        cases he
        have D4 := Lib.hid (DD.out.turn t)
        clear t
        refine ⟨⟨cell_blk D4.out.ev, cell_blk D4.out.act⟩, ?_⟩
        try simp only [Act.put, nA, nB, nC, nD, nE, nF]
        refine held_take 6 ?_ rfl (by kernel_rfl) (by kernel_rfl) (by kernel_rfl) (fun _ _ _ h => h) (Or.inl ⟨by kernel_rfl, ?_⟩) ⟨cell_blk D4.out.ev, cell_blk D4.out.act⟩ ?_
        rotate_left 1
        · intro u hu; go_simp; first | done | with_reducible rfl
        try simp only [Act.put, nA, nB, nC, nD, nE, nF]
        refine held_take 7 ?_ rfl (by kernel_rfl) (by kernel_rfl) (by kernel_rfl) (fun _ _ _ h => h) (Or.inl ⟨by kernel_rfl, ?_⟩) ⟨cell_blk D4.out.ev, cell_blk D4.out.act⟩ ?_
        rotate_left 1
        · intro u hu; go_simp; first | done | with_reducible rfl
        try simp only [Act.put, nA, nB, nC, nD, nE, nF]
        have y4w4 : w4.cell? ⟨q, 4, none⟩ = some (.string ⟨#[]⟩) := cell_blk D4.out.ev
        have z4w4 : w4.frozen? ⟨q, 4, none⟩ = false := frozen_blk D4.out.ev
        obtain ⟨w5, ew5⟩ : ∃ x, w4.setCell ⟨q, 4, none⟩ (.string (BT (A ++ 43 :: DS))) = x := ⟨_, rfl⟩
        have Dw5 : Hid (EvDoor w w5 n q #[.int .u8 kd, va, vc, vn, .int .u8 sd, .int .u8 tg, .int .i64 wd, .int .u8 od] ⟨5, Sl, A, P, A ++ 43 :: DS, 0, 0, 0, []⟩) := Lib.hid (by rw [← ew5]; exact D4.out.set 4 (.string (BT (A ++ 43 :: DS))) rfl)
        refine held_one 8 (by kernel_rfl) rfl (by kernel_rfl) (fun K hK => ?_)
        go_simp
        refine hK _ _ ?_ ?_
        · exact ⟨cell_blk Dw5.out.ev, cell_blk Dw5.out.act⟩
        clear hK K
        try simp only [Act.put, nA, nB, nC, nD, nE, nF]
        refine wpAnyH_done (by kernel_rfl) ?_ _
        go_wp2_with fail
        go_meet
        case rel => exact Dw5.out.as (Eq.trans (by first | rfl | (unfold baseE; simp)) HE.out)
      · have hlA := HLA.out
        have hlD := HLD.out
        have hcat1 : ∀ W, (Op.stringOp .add (BT A) ⟨#[46]⟩).run Tryz.prog W = .ok (.string (BT (A ++ [46]))) W := fun W => cat_run (b := [46]) (by simp; omega) W
        have hcat2 : ∀ W, (Op.stringOp .add (BT (A ++ [46])) (BT DS)).run Tryz.prog W = .ok (.string (BT (A ++ 46 :: DS))) W := fun W => by
          rw [cat_run (by simp; omega) W]
          simp
        clear hlA hlD
        go_upto_region 10 with (fail)
        refine held_begin (fun u => u.cell? ⟨q, 2, none⟩ = some (.string (BT A)) ∧ u.cell? ⟨n, 4, none⟩ = some (.int .u8 sd)) (by kernel_rfl) ?_
        have DD : Hid (EvDoor w wc.drew n q #[.int .u8 kd, va, vc, vn, .int .u8 sd, .int .u8 tg, .int .i64 wd, .int .u8 od] ⟨6, Sl, A, P, [], 0, 0, 0, []⟩) := Lib.hid (D.out.turn (Turn.refl Nn wc).drew)
        generalize World.drew wc = ws at DD ⊢
        refine held_take 0 ?_ rfl (by kernel_rfl) (by kernel_rfl) (by kernel_rfl) (fun _ _ _ h => h) (Or.inl ⟨by kernel_rfl, ?_⟩) ⟨cell_blk DD.out.ev, cell_blk DD.out.act⟩ ?_
        rotate_left 1
        · intro u hu; obtain ⟨y2, a4⟩ := hu; go_simp; first | done | with_reducible rfl
        try simp only [Act.put, nA, nB, nC, nD, nE, nF]
        refine held_take 1 ?_ rfl (by kernel_rfl) (by kernel_rfl) (by kernel_rfl) (fun _ _ _ h => h) (Or.inl ⟨by kernel_rfl, ?_⟩) ⟨cell_blk DD.out.ev, cell_blk DD.out.act⟩ ?_
        rotate_left 1
        · intro u hu; obtain ⟨y2, a4⟩ := hu; go_simp; first | done | with_reducible rfl
        try simp only [Act.put, nA, nB, nC, nD, nE, nF]
        refine held_take 2 ?_ rfl (by kernel_rfl) (by kernel_rfl) (by kernel_rfl) (fun _ _ _ h => h) (Or.inl ⟨by kernel_rfl, ?_⟩) ⟨cell_blk DD.out.ev, cell_blk DD.out.act⟩ ?_
        rotate_left 1
        · intro u hu; obtain ⟨y2, a4⟩ := hu; go_simp; first | done | with_reducible rfl
        try simp only [Act.put, nA, nB, nC, nD, nE, nF]
        refine held_take 3 ?_ rfl (by kernel_rfl) (by kernel_rfl) (by kernel_rfl) (fun _ _ _ h => h) (Or.inl ⟨by kernel_rfl, ?_⟩) ⟨cell_blk DD.out.ev, cell_blk DD.out.act⟩ ?_
        rotate_left 1
        · intro u hu; obtain ⟨y2, a4⟩ := hu; go_simp; first | done | with_reducible rfl
        try simp only [Act.put, nA, nB, nC, nD, nE, nF]
        refine held_take 4 ?_ rfl (by kernel_rfl) (by kernel_rfl) (by kernel_rfl) (fun _ _ _ h => h) (Or.inl ⟨by kernel_rfl, ?_⟩) ⟨cell_blk DD.out.ev, cell_blk DD.out.act⟩ ?_
        rotate_left 1
        · intro u hu; obtain ⟨y2, a4⟩ := hu; go_simp; first | done | with_reducible rfl
        try simp only [Act.put, nA, nB, nC, nD, nE, nF]
        refine held_call 5 (by kernel_rfl) rfl (by kernel_rfl) (by first | rfl | go_simp) (dS _ DD.out.low) ?_ (fun c u h => by cases h.1) (fun u h => by cases h.1)
        rintro v w4 ⟨he, t⟩
        cases he
        have D4 := Lib.hid (DD.out.turn t)
        clear t
        refine ⟨⟨cell_blk D4.out.ev, cell_blk D4.out.act⟩, ?_⟩
        try simp only [Act.put, nA, nB, nC, nD, nE, nF]
        refine held_take 6 ?_ rfl (by kernel_rfl) (by kernel_rfl) (by kernel_rfl) (fun _ _ _ h => h) (Or.inl ⟨by kernel_rfl, ?_⟩) ⟨cell_blk D4.out.ev, cell_blk D4.out.act⟩ ?_
        rotate_left 1
        · intro u hu; go_simp; first | done | with_reducible rfl
        try simp only [Act.put, nA, nB, nC, nD, nE, nF]
        refine held_take 7 ?_ rfl (by kernel_rfl) (by kernel_rfl) (by kernel_rfl) (fun _ _ _ h => h) (Or.inl ⟨by kernel_rfl, ?_⟩) ⟨cell_blk D4.out.ev, cell_blk D4.out.act⟩ ?_
        rotate_left 1
        · intro u hu; go_simp; first | done | with_reducible rfl
        try simp only [Act.put, nA, nB, nC, nD, nE, nF]
        have y8w4 : w4.cell? ⟨q, 8, none⟩ = some (.string ⟨#[]⟩) := cell_blk D4.out.ev
        have z8w4 : w4.frozen? ⟨q, 8, none⟩ = false := frozen_blk D4.out.ev
        obtain ⟨w5, ew5⟩ : ∃ x, w4.setCell ⟨q, 8, none⟩ (.string (BT (A ++ 46 :: DS))) = x := ⟨_, rfl⟩
        have Dw5 : Hid (EvDoor w w5 n q #[.int .u8 kd, va, vc, vn, .int .u8 sd, .int .u8 tg, .int .i64 wd, .int .u8 od] ⟨6, Sl, A, P, [], 0, 0, 0, A ++ 46 :: DS⟩) := Lib.hid (by rw [← ew5]; exact D4.out.set 8 (.string (BT (A ++ 46 :: DS))) rfl)
        refine held_one 8 (by kernel_rfl) rfl (by kernel_rfl) (fun K hK => ?_)
        go_simp
        refine hK _ _ ?_ ?_
        · exact ⟨cell_blk Dw5.out.ev, cell_blk Dw5.out.act⟩
        clear hK K
        try simp only [Act.put, nA, nB, nC, nD, nE, nF]
        refine wpAnyH_done (by kernel_rfl) ?_ _
        go_wp2_with fail
        go_meet
        case rel => exact Dw5.out.as (Eq.trans (by first | rfl | (unfold baseE; simp)) HE.out)
      · have a2wc : wc.cell? ⟨n, 2, none⟩ = some (vc) := cell_blk D.out.act
        go_wp2_with fail
        refine (nC1 _ D.out.low).mono ?_
        rintro e w4 ⟨rfl, t⟩
        have D4 := Lib.hid (D.out.turn t)
        clear t a2wc
        have y4w4 : w4.cell? ⟨q, 4, none⟩ = some (.string ⟨#[]⟩) := cell_blk D4.out.ev
        have z4w4 : w4.frozen? ⟨q, 4, none⟩ = false := frozen_blk D4.out.ev
        obtain ⟨w5, ew5⟩ : ∃ x, w4.setCell ⟨q, 4, none⟩ (.string (BT C)) = x := ⟨_, rfl⟩
        have Dw5 : Hid (EvDoor w w5 n q #[.int .u8 kd, va, vc, vn, .int .u8 sd, .int .u8 tg, .int .i64 wd, .int .u8 od] ⟨7, Sl, A, P, C, 0, 0, 0, []⟩) := Lib.hid (by rw [← ew5]; exact D4.out.set 4 (.string (BT C)) rfl)
        have a4w5 : w5.cell? ⟨n, 4, none⟩ = some (.int .u8 sd) := cell_blk Dw5.out.act
        have y5w5 : w5.cell? ⟨q, 5, none⟩ = some (.int .i64 (0)) := cell_blk Dw5.out.ev
        have z5w5 : w5.frozen? ⟨q, 5, none⟩ = false := frozen_blk Dw5.out.ev
        obtain ⟨w6, ew6⟩ : ∃ x, w5.setCell ⟨q, 5, none⟩ (.int .i64 S2) = x := ⟨_, rfl⟩
        have Dw6 : Hid (EvDoor w w6 n q #[.int .u8 kd, va, vc, vn, .int .u8 sd, .int .u8 tg, .int .i64 wd, .int .u8 od] ⟨7, Sl, A, P, C, S2, 0, 0, []⟩) := Lib.hid (by rw [← ew6]; exact Dw5.out.set 5 (.int .i64 S2) rfl)
        go_wp2_with fail
        go_meet
        case rel => exact Dw6.out.as (Eq.trans (by first | rfl | (unfold baseE; simp)) HE.out)
      · go_wp2_with fail
        go_meet
        case rel => exact D.out.as (Eq.trans (by first | rfl | (unfold baseE; simp)) HE.out)
      · go_wp2_with fail
        go_meet
        case rel => exact D.out.as (Eq.trans (by first | rfl | (unfold baseE; simp)) HE.out)
    case rest =>
      have D := Lib.hid hcut
      clear hcut
      have a7 : wc.cell? ⟨n, 7, none⟩ = some (.int .u8 od) := cell_blk D.out.act
      go_upto_block 1 with (fail)
      clear a7
      go_cut [] from 99 (fun wx => EvDoor w wx n q #[.int .u8 kd, va, vc, vn, .int .u8 sd, .int .u8 tg, .int .i64 wd, .int .u8 od] F)
      case first =>
        rcases HO.out with rfl | rfl | rfl | rfl | rfl | rfl | rfl | rfl | rfl | rfl | rfl | rfl | rfl | rfl | rfl | rfl
        · have y7wc : wc.cell? ⟨q, 7, none⟩ = some (.int .i64 (E.word)) := cell_blk D.out.ev
          have z7wc : wc.frozen? ⟨q, 7, none⟩ = false := frozen_blk D.out.ev
          obtain ⟨wn, ewn⟩ : ∃ x, wc.setCell ⟨q, 7, none⟩ (.int .i64 9) = x := ⟨_, rfl⟩
          have Dwn : Hid (EvDoor w wn n q #[.int .u8 kd, va, vc, vn, .int .u8 sd, .int .u8 tg, .int .i64 wd, .int .u8 od] ⟨E.kind, E.slot, E.actor, E.pc, E.chan, E.side, E.tag, 9, E.name⟩) := Lib.hid (by rw [← ewn]; exact D.out.set 7 (.int .i64 9) rfl)
          go_wp2_with fail
          go_meet
          case rel => exact Dwn.out.as (Eq.trans (by first | rfl | (unfold oddE; simp)) HF.out)
        · have y5wc : wc.cell? ⟨q, 5, none⟩ = some (.int .i64 (E.side)) := cell_blk D.out.ev
          have z5wc : wc.frozen? ⟨q, 5, none⟩ = false := frozen_blk D.out.ev
          obtain ⟨wn, ewn⟩ : ∃ x, wc.setCell ⟨q, 5, none⟩ (.int .i64 2) = x := ⟨_, rfl⟩
          have Dwn : Hid (EvDoor w wn n q #[.int .u8 kd, va, vc, vn, .int .u8 sd, .int .u8 tg, .int .i64 wd, .int .u8 od] ⟨E.kind, E.slot, E.actor, E.pc, E.chan, 2, E.tag, E.word, E.name⟩) := Lib.hid (by rw [← ewn]; exact D.out.set 5 (.int .i64 2) rfl)
          go_wp2_with fail
          go_meet
          case rel => exact Dwn.out.as (Eq.trans (by first | rfl | (unfold oddE; simp)) HF.out)
        · have a3wc : wc.cell? ⟨n, 3, none⟩ = some (vn) := cell_blk D.out.act
          go_wp2_with fail
          refine (nN0 _ D.out.low).mono ?_
          rintro e w4 ⟨rfl, t⟩
          have D4 := Lib.hid (D.out.turn t)
          clear t
          have y8w4 : w4.cell? ⟨q, 8, none⟩ = some (.string (BT (E.name))) := cell_blk D4.out.ev
          have z8w4 : w4.frozen? ⟨q, 8, none⟩ = false := frozen_blk D4.out.ev
          obtain ⟨wn, ewn⟩ : ∃ x, w4.setCell ⟨q, 8, none⟩ (.string (BT N0)) = x := ⟨_, rfl⟩
          have Dwn : Hid (EvDoor w wn n q #[.int .u8 kd, va, vc, vn, .int .u8 sd, .int .u8 tg, .int .i64 wd, .int .u8 od] ⟨E.kind, E.slot, E.actor, E.pc, E.chan, E.side, E.tag, E.word, N0⟩) := Lib.hid (by rw [← ewn]; exact D4.out.set 8 (.string (BT N0)) rfl)
          go_wp2_with fail
          go_meet
          case rel => exact Dwn.out.as (Eq.trans (by first | rfl | (unfold oddE; simp)) HF.out)
        · have a3wc : wc.cell? ⟨n, 3, none⟩ = some (vn) := cell_blk D.out.act
          go_wp2_with fail
          refine (nN1 _ D.out.low).mono ?_
          rintro e w4 ⟨rfl, t⟩
          have D4 := Lib.hid (D.out.turn t)
          clear t
          have y4w4 : w4.cell? ⟨q, 4, none⟩ = some (.string (BT (E.chan))) := cell_blk D4.out.ev
          have z4w4 : w4.frozen? ⟨q, 4, none⟩ = false := frozen_blk D4.out.ev
          obtain ⟨wn, ewn⟩ : ∃ x, w4.setCell ⟨q, 4, none⟩ (.string (BT N1)) = x := ⟨_, rfl⟩
          have Dwn : Hid (EvDoor w wn n q #[.int .u8 kd, va, vc, vn, .int .u8 sd, .int .u8 tg, .int .i64 wd, .int .u8 od] ⟨E.kind, E.slot, E.actor, E.pc, N1, E.side, E.tag, E.word, E.name⟩) := Lib.hid (by rw [← ewn]; exact D4.out.set 4 (.string (BT N1)) rfl)
          go_wp2_with fail
          go_meet
          case rel => exact Dwn.out.as (Eq.trans (by first | rfl | (unfold oddE; simp)) HF.out)
        · have hlA := HBA.out
          have hcat1 : ∀ W, (Op.stringOp .add (BT E.actor) ⟨#[46]⟩).run Tryz.prog W = .ok (.string (BT (E.actor ++ [46]))) W := fun W => cat_run (b := [46]) (by simp; omega) W
          clear hlA
          have y2wc : wc.cell? ⟨q, 2, none⟩ = some (.string (BT (E.actor))) := cell_blk D.out.ev
          have z2wc : wc.frozen? ⟨q, 2, none⟩ = false := frozen_blk D.out.ev
          obtain ⟨wn, ewn⟩ : ∃ x, wc.setCell ⟨q, 2, none⟩ (.string (BT (E.actor ++ [46]))) = x := ⟨_, rfl⟩
          have Dwn : Hid (EvDoor w wn n q #[.int .u8 kd, va, vc, vn, .int .u8 sd, .int .u8 tg, .int .i64 wd, .int .u8 od] ⟨E.kind, E.slot, E.actor ++ [46], E.pc, E.chan, E.side, E.tag, E.word, E.name⟩) := Lib.hid (by rw [← ewn]; exact D.out.set 2 (.string (BT (E.actor ++ [46]))) rfl)
          go_wp2_with fail
          go_meet
          case rel => exact Dwn.out.as (Eq.trans (by first | rfl | (unfold oddE; simp)) HF.out)
        · have a5wc : wc.cell? ⟨n, 5, none⟩ = some (.int .u8 tg) := cell_blk D.out.act
          have y6wc : wc.cell? ⟨q, 6, none⟩ = some (.int .i64 (E.tag)) := cell_blk D.out.ev
          have z6wc : wc.frozen? ⟨q, 6, none⟩ = false := frozen_blk D.out.ev
          obtain ⟨wn, ewn⟩ : ∃ x, wc.setCell ⟨q, 6, none⟩ (.int .i64 tg) = x := ⟨_, rfl⟩
          have Dwn : Hid (EvDoor w wn n q #[.int .u8 kd, va, vc, vn, .int .u8 sd, .int .u8 tg, .int .i64 wd, .int .u8 od] ⟨E.kind, E.slot, E.actor, E.pc, E.chan, E.side, tg, E.word, E.name⟩) := Lib.hid (by rw [← ewn]; exact D.out.set 6 (.int .i64 tg) rfl)
          go_wp2_with fail
          go_meet
          case rel => exact Dwn.out.as (Eq.trans (by first | rfl | (unfold oddE; simp)) HF.out)
        · have hng : IntKind.i64.wrap (-E.slot) = neg64 E.slot := by
            have hh := HBS.out.1
            unfold Int64 at hh
            unfold neg64
            rw [IntKind.wrap_i64]
            split <;> omega
          have y1wc : wc.cell? ⟨q, 1, none⟩ = some (.int .i64 (E.slot)) := cell_blk D.out.ev
          have z1wc : wc.frozen? ⟨q, 1, none⟩ = false := frozen_blk D.out.ev
          obtain ⟨wn, ewn⟩ : ∃ x, wc.setCell ⟨q, 1, none⟩ (.int .i64 (neg64 E.slot)) = x := ⟨_, rfl⟩
          have Dwn : Hid (EvDoor w wn n q #[.int .u8 kd, va, vc, vn, .int .u8 sd, .int .u8 tg, .int .i64 wd, .int .u8 od] ⟨E.kind, neg64 E.slot, E.actor, E.pc, E.chan, E.side, E.tag, E.word, E.name⟩) := Lib.hid (by rw [← ewn]; exact D.out.set 1 (.int .i64 (neg64 E.slot)) rfl)
          go_wp2_with fail
          go_meet
          case rel => exact Dwn.out.as (Eq.trans (by first | rfl | (unfold oddE; simp)) HF.out)
        · have hng : IntKind.i64.wrap (-E.pc) = neg64 E.pc := by
            have hh := HBS.out.2
            unfold Int64 at hh
            unfold neg64
            rw [IntKind.wrap_i64]
            split <;> omega
          have y3wc : wc.cell? ⟨q, 3, none⟩ = some (.int .i64 (E.pc)) := cell_blk D.out.ev
          have z3wc : wc.frozen? ⟨q, 3, none⟩ = false := frozen_blk D.out.ev
          obtain ⟨wn, ewn⟩ : ∃ x, wc.setCell ⟨q, 3, none⟩ (.int .i64 (neg64 E.pc)) = x := ⟨_, rfl⟩
          have Dwn : Hid (EvDoor w wn n q #[.int .u8 kd, va, vc, vn, .int .u8 sd, .int .u8 tg, .int .i64 wd, .int .u8 od] ⟨E.kind, E.slot, E.actor, neg64 E.pc, E.chan, E.side, E.tag, E.word, E.name⟩) := Lib.hid (by rw [← ewn]; exact D.out.set 3 (.int .i64 (neg64 E.pc)) rfl)
          go_wp2_with fail
          go_meet
          case rel => exact Dwn.out.as (Eq.trans (by first | rfl | (unfold oddE; simp)) HF.out)
        · go_wp2_with fail
          go_meet
          case rel => exact D.out.as (Eq.trans (by first | rfl | (unfold oddE; simp)) HF.out)
        · go_wp2_with fail
          go_meet
          case rel => exact D.out.as (Eq.trans (by first | rfl | (unfold oddE; simp)) HF.out)
        · go_wp2_with fail
          go_meet
          case rel => exact D.out.as (Eq.trans (by first | rfl | (unfold oddE; simp)) HF.out)
        · go_wp2_with fail
          go_meet
          case rel => exact D.out.as (Eq.trans (by first | rfl | (unfold oddE; simp)) HF.out)
        · go_wp2_with fail
          go_meet
          case rel => exact D.out.as (Eq.trans (by first | rfl | (unfold oddE; simp)) HF.out)
        · go_wp2_with fail
          go_meet
          case rel => exact D.out.as (Eq.trans (by first | rfl | (unfold oddE; simp)) HF.out)
        · go_wp2_with fail
          go_meet
          case rel => exact D.out.as (Eq.trans (by first | rfl | (unfold oddE; simp)) HF.out)
        · go_wp2_with fail
          go_meet
          case rel => exact D.out.as (Eq.trans (by first | rfl | (unfold oddE; simp)) HF.out)
      case rest =>
        have D := Lib.hid hcut
        clear hcut
        have y0 : wc.cell? ⟨q, 0, none⟩ = some (.int .i64 (F.kind)) := cell_blk D.out.ev
        have y1 : wc.cell? ⟨q, 1, none⟩ = some (.int .i64 (F.slot)) := cell_blk D.out.ev
        have y2 : wc.cell? ⟨q, 2, none⟩ = some (.string (BT (F.actor))) := cell_blk D.out.ev
        have y3 : wc.cell? ⟨q, 3, none⟩ = some (.int .i64 (F.pc)) := cell_blk D.out.ev
        have y4 : wc.cell? ⟨q, 4, none⟩ = some (.string (BT (F.chan))) := cell_blk D.out.ev
        have y5 : wc.cell? ⟨q, 5, none⟩ = some (.int .i64 (F.side)) := cell_blk D.out.ev
        have y6 : wc.cell? ⟨q, 6, none⟩ = some (.int .i64 (F.tag)) := cell_blk D.out.ev
        have y7 : wc.cell? ⟨q, 7, none⟩ = some (.int .i64 (F.word)) := cell_blk D.out.ev
        have y8 : wc.cell? ⟨q, 8, none⟩ = some (.string (BT (F.name))) := cell_blk D.out.ev
        have x0 : wc.cell? ⟨n + 1, 0, none⟩ = some (.int .i64 0) := cell_blk D.out.res
        have x1 : wc.cell? ⟨n + 1, 1, none⟩ = some (.int .i64 0) := cell_blk D.out.res
        have x2 : wc.cell? ⟨n + 1, 2, none⟩ = some (.string ⟨#[]⟩) := cell_blk D.out.res
        have x3 : wc.cell? ⟨n + 1, 3, none⟩ = some (.int .i64 0) := cell_blk D.out.res
        have x4 : wc.cell? ⟨n + 1, 4, none⟩ = some (.string ⟨#[]⟩) := cell_blk D.out.res
        have x5 : wc.cell? ⟨n + 1, 5, none⟩ = some (.int .i64 0) := cell_blk D.out.res
        have x6 : wc.cell? ⟨n + 1, 6, none⟩ = some (.int .i64 0) := cell_blk D.out.res
        have x7 : wc.cell? ⟨n + 1, 7, none⟩ = some (.int .i64 0) := cell_blk D.out.res
        have x8 : wc.cell? ⟨n + 1, 8, none⟩ = some (.string ⟨#[]⟩) := cell_blk D.out.res
        have z0 : wc.frozen? ⟨n + 1, 0, none⟩ = false := frozen_blk D.out.res
        have z1 : wc.frozen? ⟨n + 1, 1, none⟩ = false := frozen_blk D.out.res
        have z2 : wc.frozen? ⟨n + 1, 2, none⟩ = false := frozen_blk D.out.res
        have z3 : wc.frozen? ⟨n + 1, 3, none⟩ = false := frozen_blk D.out.res
        have z4 : wc.frozen? ⟨n + 1, 4, none⟩ = false := frozen_blk D.out.res
        have z5 : wc.frozen? ⟨n + 1, 5, none⟩ = false := frozen_blk D.out.res
        have z6 : wc.frozen? ⟨n + 1, 6, none⟩ = false := frozen_blk D.out.res
        have z7 : wc.frozen? ⟨n + 1, 7, none⟩ = false := frozen_blk D.out.res
        have z8 : wc.frozen? ⟨n + 1, 8, none⟩ = false := frozen_blk D.out.res
        obtain ⟨wr, ewr⟩ : ∃ x, set9 wc (n + 1) F = x := ⟨_, rfl⟩
        have R : Hid (EvAt wr (n + 1) F ∧ Turn Nn w wr) := Lib.hid (by rw [← ewr]; exact ⟨set9_at D.out.res F, D.out.low.off (set9_turn (B := n + 1) F) (by have := D.out.gn; omega)⟩)
        have fwr : (((((((((wc.setCell ⟨n + 1, 0, none⟩ (.int .i64 (F.kind))).setCell ⟨n + 1, 1, none⟩ (.int .i64 (F.slot))).setCell ⟨n + 1, 2, none⟩ (.string (BT (F.actor)))).setCell ⟨n + 1, 3, none⟩ (.int .i64 (F.pc))).setCell ⟨n + 1, 4, none⟩ (.string (BT (F.chan)))).setCell ⟨n + 1, 5, none⟩ (.int .i64 (F.side))).setCell ⟨n + 1, 6, none⟩ (.int .i64 (F.tag))).setCell ⟨n + 1, 7, none⟩ (.int .i64 (F.word))).setCell ⟨n + 1, 8, none⟩ (.string (BT (F.name)))) = wr := ewr
        clear ewr
        go_wp2_with fail
        obtain ⟨c0, c1, c2, c3, c4, c5, c6, c7, c8⟩ := evCells R.out.1
        refine bodyPost_ret (v := .agg (evC F)) ?_ rfl ⟨rfl, R.out.2⟩
        simp only [results, show Tryz.f23.results = #[.cell 2 34] from rfl]
        unfold evC
        go_simp
end Go.Proofs.YtpbjblbeepbklaaGreatDoor
