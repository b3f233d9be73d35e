/- Print. -/
import Derived.Test.YtjnllclpdllceaaGreatDoorVc
namespace Go.Proofs.YtjnllclpdllceaaGreatDoor
set_option linter.unusedSimpArgs false
set_option linter.unusedVariables false
open Go.RowKit Go.Shelf

def scriptA (s : ScriptD) (v : Value) : Array Value := #[.int .i64 s.chans, .int .i64 s.actors, .int .i64 s.cap, .bool s.twin, .string (BT s.mod), v]

def PrintPost (w : World) (s : ScriptD) (e : Ending) (w' : World) : Prop := e = .returned (.tuple #[.string (BT (printD s).1), .int .i64 (printD s).2]) ∧ Turn Nn w w'

theorem noBad {s : ScriptD} (h : configOk s.chans s.actors s.cap = true) (hb : badT s.turns = false) : ¬ (configOk s.chans s.actors s.cap = false ∨ s.turns.any (fun t => !turnOk t) = true) := by
  rintro (e | e)
  · rw [h] at e; cases e
  · have e : badT s.turns = true := e
    rw [hb] at e; cases e

theorem TSl.shape {w : World} {v : Value} {ts : List TurnD} (h : TSl w v ts) : ∃ pa cap, v = .slice pa ts.length cap := by
  rcases h with ⟨rfl, pa, cap, rfl⟩ | ⟨b, o, cap, rfl, _⟩
  · exact ⟨_, _, rfl⟩
  · exact ⟨_, _, rfl⟩

set_option maxRecDepth 100000 in
set_option maxHeartbeats 4000000 in
theorem print_no1 {s : ScriptD} {v : Value} {w : World} (h : configOk s.chans s.actors s.cap = false) :
    Calls Tryz.prog 8 #[.agg (scriptA s v)] w (PrintPost w s) := by
  have HP : Hid (printD s = ([], 2)) := Lib.hid (by unfold printD; rw [if_pos (.inl h)])
  have HC := Lib.hid (config_any s.chans s.actors s.cap (w.alloc (.cells (scriptA s v) 26)))
  rw [h] at HC
  simp only [scriptA] at HC ⊢
  clear h
  go_enter Tryz.func8, Tryz.ntmps8
  go_wp2_with fail
  refine HC.out.mono ?_
  rintro e w' ⟨rfl, hw⟩
  have HT : Hid (Turn Nn w w') := by rw [hw]; exact Lib.hid (((Turn.refl Nn w).alloc _).alloc _)
  clear hw
  go_wp2_with fail
  go_ret2
  exact ⟨by rw [HP.out]; rfl, HT.out⟩

set_option maxRecDepth 100000 in
set_option maxHeartbeats 4000000 in
theorem print_no2 {s : ScriptD} {v : Value} {w : World} (h : configOk s.chans s.actors s.cap = true) (hv : TSl w v s.turns) (hn : s.turns.length ≤ 1000000) (hb : badT s.turns = true) :
    Calls Tryz.prog 8 #[.agg (scriptA s v)] w (PrintPost w s) := by
  have HP : Hid (printD s = ([], 2)) := Lib.hid (by unfold printD; rw [if_pos (.inr hb)])
  have HC := Lib.hid (config_any s.chans s.actors s.cap (w.alloc (.cells (scriptA s v) 26)))
  rw [h] at HC
  simp only [scriptA] at HC ⊢
  have HV := Lib.hid hv
  have HB := Lib.hid hb
  clear h hv hb
  go_enter Tryz.func8, Tryz.ntmps8
  go_wp2_with fail
  refine HC.out.mono ?_
  rintro e w' ⟨rfl, hw⟩
  have HT : Hid (Turn Nn (w.alloc (.cells #[.int .i64 s.chans, .int .i64 s.actors, .int .i64 s.cap, .bool s.twin, .string (BT s.mod), v] 26)) w') := by rw [hw]; exact Lib.hid ((Turn.refl Nn _).alloc _)
  have c3 := cell_turn HT.out (cell_blk (o := 5) (World.alloc_heap_new w _))
  clear hw
  go_wp2_with fail
  refine (contains_any ((HV.out.turn ((Turn.refl Nn w).alloc _)).turn HT.out) hn).mono ?_
  rintro e w2 ⟨rfl, ht2⟩
  have HT2 := Lib.hid ((((Turn.refl Nn w).alloc _).trans HT.out).trans ht2)
  rw [HB.out]
  clear ht2
  go_wp2_with fail
  go_ret2
  exact ⟨by rw [HP.out]; rfl, HT2.out⟩

set_option maxRecDepth 100000 in
set_option maxHeartbeats 4000000 in
theorem print_long {s : ScriptD} {v : Value} {w : World} (h : configOk s.chans s.actors s.cap = true) (hv : TSl w v s.turns) (hn : s.turns.length ≤ 1000000) (hm : s.mod.length ≤ 1000000) (hb : badT s.turns = false) (hl : 65536 < s.mod.length ∨ 4096 < s.turns.length) :
    Calls Tryz.prog 8 #[.agg (scriptA s v)] w (PrintPost w s) := by
  have HP : Hid (printD s = ([], 4)) := Lib.hid (by unfold printD; rw [if_neg (noBad h hb), if_pos hl])
  have HC := Lib.hid (config_any s.chans s.actors s.cap (w.alloc (.cells (scriptA s v) 26)))
  rw [h] at HC
  obtain ⟨pa, cap, hsh⟩ := hv.shape
  obtain ⟨M, hM⟩ : ∃ M, BT s.mod = M := ⟨_, rfl⟩
  have hms : M.size = s.mod.length := by rw [← hM]; rfl
  obtain ⟨N, hN⟩ : ∃ N, s.turns.length = N := ⟨_, rfl⟩
  rw [← hms] at hl hm
  rw [hN] at hl hsh hn
  simp only [scriptA] at HC ⊢
  rw [hM] at HC ⊢
  have HV := Lib.hid hv
  have HB := Lib.hid hb
  have HN := Lib.hid hN
  have key : ∀ v', v = v' → Calls Tryz.prog 8 #[.agg #[.int .i64 s.chans, .int .i64 s.actors, .int .i64 s.cap, .bool s.twin, .string M, v']] w (PrintPost w s) → Calls Tryz.prog 8 #[.agg #[.int .i64 s.chans, .int .i64 s.actors, .int .i64 s.cap, .bool s.twin, .string M, v]] w (PrintPost w s) := fun v' e c => by rw [e]; exact c
  refine key _ hsh ?_
  rw [hsh] at HC HV
  clear h hv hb key hsh hM hms hN
  by_cases h1 : 65536 < M.size
  · have h2 : (65536 : Int) < (M.size : Int) := by omega
    clear hl h1
    go_enter Tryz.func8, Tryz.ntmps8
    go_wp2_with fail
    refine HC.out.mono ?_
    rintro e w' ⟨rfl, hw⟩
    have HT : Hid (Turn Nn (w.alloc (.cells #[.int .i64 s.chans, .int .i64 s.actors, .int .i64 s.cap, .bool s.twin, .string M, .slice pa N cap] 26)) w') := by rw [hw]; exact Lib.hid ((Turn.refl Nn _).alloc _)
    have c3 := cell_turn HT.out (cell_blk (o := 5) (World.alloc_heap_new w _))
    have c2 := cell_turn HT.out (cell_blk (o := 4) (World.alloc_heap_new w _))
    clear hw
    go_wp2_with fail
    refine (contains_any ((HV.out.turn ((Turn.refl Nn w).alloc _)).turn HT.out) (by rw [HN.out]; exact hn)).mono ?_
    rintro e w2 ⟨rfl, ht2⟩
    have c2 := cell_turn ht2 c2
    have HT2 := Lib.hid ((((Turn.refl Nn w).alloc _).trans HT.out).trans ht2)
    rw [HB.out]
    clear ht2 c3
    go_wp2_with fail
    go_ret2
    exact ⟨by rw [HP.out]; rfl, HT2.out⟩
  · have h2 : ¬ (65536 : Int) < (M.size : Int) := by omega
    have h3 : (4096 : Int) < (N : Int) := by omega
    clear hl h1
    go_enter Tryz.func8, Tryz.ntmps8
    go_wp2_with fail
    refine HC.out.mono ?_
    rintro e w' ⟨rfl, hw⟩
    have HT : Hid (Turn Nn (w.alloc (.cells #[.int .i64 s.chans, .int .i64 s.actors, .int .i64 s.cap, .bool s.twin, .string M, .slice pa N cap] 26)) w') := by rw [hw]; exact Lib.hid ((Turn.refl Nn _).alloc _)
    have c3 := cell_turn HT.out (cell_blk (o := 5) (World.alloc_heap_new w _))
    have c2 := cell_turn HT.out (cell_blk (o := 4) (World.alloc_heap_new w _))
    clear hw
    go_wp2_with fail
    refine (contains_any ((HV.out.turn ((Turn.refl Nn w).alloc _)).turn HT.out) (by rw [HN.out]; exact hn)).mono ?_
    rintro e w2 ⟨rfl, ht2⟩
    have c2 := cell_turn ht2 c2
    have c3 := cell_turn ht2 c3
    have HT2 := Lib.hid ((((Turn.refl Nn w).alloc _).trans HT.out).trans ht2)
    rw [HB.out]
    clear ht2
    go_wp2_with fail
    go_ret2
    exact ⟨by rw [HP.out]; rfl, HT2.out⟩

end Go.Proofs.YtjnllclpdllceaaGreatDoor
