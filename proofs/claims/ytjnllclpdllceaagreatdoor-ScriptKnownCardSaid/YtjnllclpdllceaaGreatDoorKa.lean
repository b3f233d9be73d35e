/- ScriptKnown: the closed texts. Printed by gen_ka.py. -/
import Derived.Test.YtjnllclpdllceaaGreatDoorVm
namespace Go.Proofs.YtjnllclpdllceaaGreatDoor
set_option linter.unusedSimpArgs false
set_option linter.unusedVariables false
open Go.RowKit Go.Shelf

def kt0 : Bs := []
theorem kt0_bad : parseD kt0 = .error (5, 0) := by kernel_rfl
def kt1 : Bs := [109, 97, 99, 104, 105, 110, 101, 32, 56, 32, 52, 32, 50]
theorem kt1_bad : parseD kt1 = .error (5, 0) := by kernel_rfl
def kt2 : Bs := [109, 97, 99, 104, 105, 110, 101, 32, 48, 32, 52, 32, 50, 10]
theorem kt2_bad : parseD kt2 = .error (2, 0) := by kernel_rfl
def kt3 : Bs := [109, 97, 99, 104, 105, 110, 101, 32, 54, 53, 32, 52, 32, 50, 10]
theorem kt3_bad : parseD kt3 = .error (2, 0) := by kernel_rfl
def kt4 : Bs := [109, 97, 99, 104, 105, 110, 101, 32, 56, 32, 51, 51, 32, 50, 10]
theorem kt4_bad : parseD kt4 = .error (2, 0) := by kernel_rfl
def kt5 : Bs := [109, 97, 99, 104, 105, 110, 101, 32, 56, 32, 52, 32, 49, 55, 10]
theorem kt5_bad : parseD kt5 = .error (2, 0) := by kernel_rfl
def kt6 : Bs := [109, 97, 99, 104, 105, 110, 101, 32, 56, 32, 52, 10]
theorem kt6_bad : parseD kt6 = .error (5, 0) := by kernel_rfl
def kt7 : Bs := [109, 97, 99, 104, 105, 110, 101, 32, 56, 32, 52, 32, 50, 32, 84, 119, 105, 110, 10]
theorem kt7_bad : parseD kt7 = .error (5, 0) := by kernel_rfl
def kt8 : Bs := [109, 97, 99, 104, 105, 110, 101, 32, 48, 56, 32, 52, 32, 50, 10]
theorem kt8_bad : parseD kt8 = .error (5, 0) := by kernel_rfl
def kt9 : Bs := [109, 97, 99, 104, 105, 110, 101, 32, 32, 56, 32, 52, 32, 50, 10]
theorem kt9_bad : parseD kt9 = .error (5, 0) := by kernel_rfl
def kt10 : Bs := [109, 97, 99, 104, 105, 110, 101, 32, 49, 48, 48, 48, 48, 48, 48, 48, 48, 48, 32, 52, 32, 50, 10]
theorem kt10_bad : parseD kt10 = .error (5, 0) := by kernel_rfl
def kt11 : Bs := [112, 105, 99, 107, 32, 48, 32, 49, 10]
theorem kt11_bad : parseD kt11 = .error (5, 0) := by kernel_rfl
def kt12 : Bs := [109, 97, 99, 104, 105, 110, 101, 32, 56, 32, 52, 32, 50, 10, 10]
theorem kt12_bad : parseD kt12 = .error (5, 1) := by kernel_rfl
def kt13 : Bs := [109, 97, 99, 104, 105, 110, 101, 32, 56, 32, 52, 32, 50, 10, 109, 97, 99, 104, 105, 110, 101, 32, 56, 32, 52, 32, 50, 10]
theorem kt13_bad : parseD kt13 = .error (5, 1) := by kernel_rfl
def kt14 : Bs := [109, 97, 99, 104, 105, 110, 101, 32, 56, 32, 52, 32, 50, 10, 112, 105, 99, 107, 32, 48, 32, 48, 10]
theorem kt14_bad : parseD kt14 = .error (2, 1) := by kernel_rfl
def kt15 : Bs := [109, 97, 99, 104, 105, 110, 101, 32, 56, 32, 52, 32, 50, 10, 112, 105, 99, 107, 32, 49, 48, 48, 32, 49, 10]
theorem kt15_bad : parseD kt15 = .error (2, 1) := by kernel_rfl
def kt16 : Bs := [109, 97, 99, 104, 105, 110, 101, 32, 56, 32, 52, 32, 50, 10, 112, 105, 99, 107, 32, 48, 32, 49, 48, 48, 49, 10]
theorem kt16_bad : parseD kt16 = .error (2, 1) := by kernel_rfl
def kt17 : Bs := [109, 97, 99, 104, 105, 110, 101, 32, 56, 32, 52, 32, 50, 10, 112, 105, 99, 107, 32, 48, 10]
theorem kt17_bad : parseD kt17 = .error (5, 1) := by kernel_rfl
def kt18 : Bs := [109, 97, 99, 104, 105, 110, 101, 32, 56, 32, 52, 32, 50, 10, 112, 105, 99, 107, 32, 48, 32, 49, 32, 50, 10]
theorem kt18_bad : parseD kt18 = .error (5, 1) := by kernel_rfl
def kt19 : Bs := [109, 97, 99, 104, 105, 110, 101, 32, 56, 32, 52, 32, 50, 10, 114, 111, 117, 110, 100, 32, 48, 10]
theorem kt19_bad : parseD kt19 = .error (2, 1) := by kernel_rfl
def kt20 : Bs := [109, 97, 99, 104, 105, 110, 101, 32, 56, 32, 52, 32, 50, 10, 115, 104, 111, 119, 32, 49, 10]
theorem kt20_bad : parseD kt20 = .error (5, 1) := by kernel_rfl
def kt21 : Bs := [109, 97, 99, 104, 105, 110, 101, 32, 56, 32, 52, 32, 50, 10, 115, 104, 111, 119, 10, 114, 111, 119, 115]
theorem kt21_bad : parseD kt21 = .error (5, 2) := by kernel_rfl
def kt22 : Bs := [109, 97, 99, 104, 105, 110, 101, 32, 56, 32, 52, 32, 50, 10, 115, 104, 111, 119, 10, 98, 121, 116, 101, 115, 32, 48, 48, 10]
theorem kt22_bad : parseD kt22 = .error (5, 2) := by kernel_rfl
def kt23 : Bs := [109, 97, 99, 104, 105, 110, 101, 32, 56, 32, 52, 32, 50, 10, 98, 121, 116, 101, 115, 32, 48, 10]
theorem kt23_bad : parseD kt23 = .error (5, 1) := by kernel_rfl
def kt24 : Bs := [109, 97, 99, 104, 105, 110, 101, 32, 56, 32, 52, 32, 50, 10, 98, 121, 116, 101, 115, 32, 48, 65, 10]
theorem kt24_bad : parseD kt24 = .error (5, 1) := by kernel_rfl
def kt25 : Bs := [109, 97, 99, 104, 105, 110, 101, 32, 56, 32, 52, 32, 50, 10, 98, 121, 116, 101, 115, 32, 10]
theorem kt25_bad : parseD kt25 = .error (5, 1) := by kernel_rfl
def kt26 : Bs := [109, 97, 99, 104, 105, 110, 101, 32, 56, 32, 52, 32, 50, 10, 98, 121, 116, 101, 115, 10]
theorem kt26_bad : parseD kt26 = .error (5, 1) := by kernel_rfl
def kt27 : Bs := [109, 97, 99, 104, 105, 110, 101, 32, 56, 32, 52, 32, 50, 10, 98, 121, 116, 101, 115, 32, 48, 48, 10, 98, 121, 116, 101, 115, 32, 48, 48, 10]
theorem kt27_bad : parseD kt27 = .error (5, 2) := by kernel_rfl
def kt28 : Bs := [109, 97, 99, 104, 105, 110, 101, 32, 56, 32, 52, 32, 50, 10, 98, 121, 116, 101, 115, 32, 48, 48, 48, 48, 48, 48, 48, 48, 48, 48, 48, 48, 48, 48, 48, 48, 48, 48, 48, 48, 48, 48, 48, 48, 48, 48, 48, 48, 48, 48, 48, 48, 48, 48, 48, 48, 48, 48, 48, 48, 48, 48, 48, 48, 48, 48, 48, 48, 48, 48, 10]
theorem kt28_bad : parseD kt28 = .error (5, 1) := by kernel_rfl

/-- A text, over and over. -/
def rep (l : Bs) : Nat → Bs
  | 0 => []
  | n + 1 => l ++ rep l n
theorem rep_length (l : Bs) : ∀ n, (rep l n).length = l.length * n
  | 0 => rfl
  | n + 1 => by rw [rep, List.length_append, rep_length l n, Nat.mul_succ]; omega
theorem flat_rep (l : Bs) : ∀ n, flat (List.replicate n l) = rep (l ++ [10]) n
  | 0 => rfl
  | n + 1 => by rw [List.replicate_succ, flat, flat_rep l n, rep]; simp
theorem hexL_rep (b : UInt8) : ∀ n, hexL (List.replicate n b) = rep (hx2 b) n
  | 0 => rfl
  | n + 1 => by rw [List.replicate_succ, hexL, hexL_rep b n, rep]
theorem chunks_rep (b : UInt8) (m : Nat) (hm : m ≤ 24) (h0 : 0 < m) : ∀ n, chunks (List.replicate (24 * n + m) b) = List.replicate n (List.replicate 24 b) ++ [List.replicate m b]
  | 0 => by
    rw [chunks, dif_neg (by intro e; have := congrArg List.length e; rw [List.length_replicate, List.length_nil] at this; omega)]
    rw [List.take_of_length_le (by rw [List.length_replicate]; omega), List.drop_of_length_le (by rw [List.length_replicate]; omega), chunks, dif_pos rfl]
    simp
  | n + 1 => by
    rw [chunks, dif_neg (by intro e; have := congrArg List.length e; rw [List.length_replicate, List.length_nil] at this; omega)]
    rw [List.take_replicate, List.drop_replicate]
    rw [show min 24 (24 * (n + 1) + m) = 24 by omega, show 24 * (n + 1) + m - 24 = 24 * n + m by omega, chunks_rep b m hm h0 n]
    rfl
theorem chunks_rep0 (b : UInt8) : ∀ n, chunks (List.replicate (24 * n) b) = List.replicate n (List.replicate 24 b)
  | 0 => by
    show chunks [] = []
    rw [chunks, dif_pos rfl]
  | n + 1 => by
    rw [chunks, dif_neg (by intro e; have := congrArg List.length e; rw [List.length_replicate, List.length_nil] at this; omega)]
    rw [List.take_replicate, List.drop_replicate]
    rw [show min 24 (24 * (n + 1)) = 24 by omega, show 24 * (n + 1) - 24 = 24 * n by omega, chunks_rep0 b n]
    rfl

def kHead : Bs := [109, 97, 99, 104, 105, 110, 101, 32, 56, 32, 52, 32, 50, 10]
def kFull : Bs := [98, 121, 116, 101, 115, 32] ++ rep [48, 97] 24 ++ [10]
def kMostG (n k : Nat) : ScriptD := ⟨8, 4, 2, false, List.replicate (24 * n + 16) 10, List.replicate k ⟨2, 0, 0⟩⟩
def kTopG (n k : Nat) : Bs := kHead ++ rep kFull n ++ [98, 121, 116, 101, 115, 32] ++ rep [48, 97] 16 ++ [10] ++ rep [115, 104, 111, 119, 10] k

theorem kLine (n : Nat) : bytesLine (List.replicate n 10) = [98, 121, 116, 101, 115, 32] ++ rep [48, 97] n := by
  unfold bytesLine
  rw [hexL_rep]
  rfl
theorem kHeadT (m : Bs) (ts : List TurnD) : headT ⟨8, 4, 2, false, m, ts⟩ = [109, 97, 99, 104, 105, 110, 101, 32, 56, 32, 52, 32, 50] := by kernel_rfl
theorem kMost_valid {n k : Nat} (hn : 24 * n + 16 ≤ 65536) (hk : k ≤ 4096) : printD (kMostG n k) = (textT (kMostG n k), 0) := by
  refine printD_valid ?_
  refine ⟨(by decide : configOk 8 4 2 = true), fun t ht => ?_, ?_, ?_⟩
  · rw [List.eq_of_mem_replicate ht]; rfl
  · show (List.replicate k _).length ≤ 4096
    rw [List.length_replicate]; exact hk
  · show (List.replicate (24 * n + 16) _).length ≤ 65536
    rw [List.length_replicate]; exact hn
theorem kShow : lineT ⟨2, 0, 0⟩ = [115, 104, 111, 119] := by kernel_rfl
theorem kTop_text (n k : Nat) : textT (kMostG n k) = kTopG n k := by
  rw [textT_lines]
  unfold linesOf kMostG kTopG
  simp only
  rw [chunks_rep 10 16 (by decide) (by decide) n]
  rw [List.map_append, List.map_replicate, List.map_replicate, kLine, List.map_cons, List.map_nil, kLine, kHeadT, kShow]
  simp only [flat, flat_append, flat_rep]
  unfold kHead kFull
  simp only [List.append_assoc, List.cons_append, List.nil_append]
def kBigA (n : Nat) : Bs := kHead ++ rep kFull n ++ [98, 121, 116, 101, 115, 32] ++ rep [48, 97] 17 ++ [10]
def kBigB (n : Nat) : Bs := kHead ++ rep [114, 111, 119, 115, 10] n
def kBigC (n : Nat) : Bs := kHead ++ rep [114, 111, 119, 115, 10] n ++ [112, 105, 99, 107, 32, 48, 32, 48, 10]

theorem nonl_rep {l : Bs} (h : NoNl l) : ∀ n, NoNl (rep l n)
  | 0 => fun c hc => by simp [rep] at hc
  | n + 1 => nonl_app h (nonl_rep h n)
theorem parseD_bad {ls : List Bs} (hl : ∀ l ∈ ls, NoNl l) (hne : ls ≠ []) {e : Int × Nat} (hf : foldS ls 0 0 zeroS = .error e) : parseD (flat ls) = .error e := by
  unfold parseD
  rw [if_neg (by cases ls with | nil => exact absurd rfl hne | cons => simp [flat])]
  have := parseGo_flat ls hl [] 0 0 zeroS
  rw [List.append_nil, hf] at this
  rw [this]
def kL0 : Bs := [109, 97, 99, 104, 105, 110, 101, 32, 56, 32, 52, 32, 50]
theorem kL0_step : stepS 0 zeroS (spW kL0) = .ok (1, ⟨8, 4, 2, false, [], []⟩) := by kernel_rfl
theorem kL0_nonl : NoNl kL0 := by unfold NoNl kL0; decide
theorem foldS_two {a : List Bs} {x : Bs} {ph0 ph : Nat} {s0 s : ScriptD} {at_ : Nat} {e : Int} (h : foldS a at_ ph0 s0 = .ok (ph, s)) (h2 : stepS ph s (spW x) = .error e) : foldS (a ++ [x]) at_ ph0 s0 = .error (e, at_ + a.length) := by
  rw [foldS_append, h]
  simp only [foldS, h2]
theorem kBigA_bad {n : Nat} (hn : 24 * n ≤ 65536) (hn2 : 65536 < 24 * n + 17) : parseD (kBigA n) = .error (4, n + 1) := by
  have hls : kBigA n = flat (kL0 :: (List.replicate n (bytesLine (List.replicate 24 10)) ++ [bytesLine (List.replicate 17 10)])) := by
    rw [kLine, kLine]
    simp only [flat, flat_append, flat_rep]
    unfold kBigA kHead kFull kL0
    simp only [List.append_assoc, List.cons_append, List.nil_append]
  rw [hls]
  refine parseD_bad ?_ (by simp) ?_
  · intro l hl
    simp only [List.mem_cons, List.mem_append, List.mem_replicate, List.not_mem_nil, or_false] at hl
    rcases hl with rfl | ⟨_, rfl⟩ | rfl
    · exact kL0_nonl
    · exact bytes_nonl _
    · exact bytes_nonl _
  · rw [foldS, kL0_step]
    simp only
    have h1 := fold_bytes _ (List.replicate (24 * n) 10) ⟨8, 4, 2, false, [], []⟩ 1 (Nat.le_refl _) rfl (by simp; omega)
    rw [chunks_rep0, List.map_replicate] at h1
    have h2 := foldS_two (x := bytesLine (List.replicate 17 10)) (e := 4) h1 (by
      rw [bytes_words]
      unfold stepS
      rw [if_neg (by decide), if_pos ⟨rfl, rfl⟩]
      rw [show hexL (List.replicate 17 (10 : UInt8)) = [48, 97, 48, 97, 48, 97, 48, 97, 48, 97, 48, 97, 48, 97, 48, 97, 48, 97, 48, 97, 48, 97, 48, 97, 48, 97, 48, 97, 48, 97, 48, 97, 48, 97] from rfl]
      unfold bytesS
      simp only [List.nil_append, List.length_replicate]
      rw [if_neg (by
        rintro (h | h | h | h)
        · omega
        · simp at h
        · simp at h
        · simp at h)]
      rw [show unhexL [48, 97, 48, 97, 48, 97, 48, 97, 48, 97, 48, 97, 48, 97, 48, 97, 48, 97, 48, 97, 48, 97, 48, 97, 48, 97, 48, 97, 48, 97, 48, 97, 48, 97] = some [10, 10, 10, 10, 10, 10, 10, 10, 10, 10, 10, 10, 10, 10, 10, 10, 10] by kernel_rfl]
      simp only [List.length_cons, List.length_nil]
      rw [if_pos (by omega)]
      rfl)
    rw [List.length_replicate, Nat.add_comm] at h2
    exact h2
theorem kRows (n : Nat) : flat (List.replicate n [114, 111, 119, 115]) = rep [114, 111, 119, 115, 10] n := flat_rep _ n
theorem kRowsT : lineT ⟨3, 0, 0⟩ = [114, 111, 119, 115] := by kernel_rfl
theorem kRows_fold {n : Nat} (hn : n ≤ 4096) : ∃ ph', foldS (List.replicate n [114, 111, 119, 115]) 1 1 ⟨8, 4, 2, false, [], []⟩ = .ok (ph', ⟨8, 4, 2, false, [], List.replicate n ⟨3, 0, 0⟩⟩) := by
  obtain ⟨ph', h⟩ := fold_turns (List.replicate n ⟨3, 0, 0⟩) ⟨8, 4, 2, false, [], []⟩ 1 1 (Nat.le_refl _) (fun t ht => by rw [List.eq_of_mem_replicate ht]; rfl) (by simp; omega)
  rw [List.map_replicate, kRowsT] at h
  exact ⟨ph', h⟩
theorem rows_nonl : NoNl [114, 111, 119, 115] := by unfold NoNl; decide
theorem step_late {ph : Nat} {s : ScriptD} {w : List Bs} (hw : w.head? ≠ some wBytes) (hph : ph ≠ 0) : stepS ph s w = (turnS s w).map fun s => (2, s) := by
  unfold stepS
  rw [if_neg hph, if_neg (fun h => hw h.2)]
theorem fold_ph : ∀ (ls : List Bs) (at_ ph : Nat) (s : ScriptD) (p : Nat × ScriptD), ph ≠ 0 → foldS ls at_ ph s = .ok p → p.1 ≠ 0
  | [], at_, ph, s, p, h, hf => by simp only [foldS, Except.ok.injEq] at hf; subst hf; exact h
  | l :: r, at_, ph, s, p, h, hf => by
    rw [foldS] at hf
    split at hf
    · cases hf
    · rename_i q hq
      refine fold_ph r _ _ _ p ?_ hf
      unfold stepS at hq
      rw [if_neg h] at hq
      split at hq
      · cases hb : bytesS s (spW l) with
        | error c => rw [hb] at hq; cases hq
        | ok s' => rw [hb] at hq; cases hq; exact Nat.succ_ne_zero _
      · cases hb : turnS s (spW l) with
        | error c => rw [hb] at hq; cases hq
        | ok s' => rw [hb] at hq; cases hq; exact Nat.succ_ne_zero _
theorem kBigB_bad {n : Nat} (hn : n = 4096) : parseD (kBigB (n + 1)) = .error (4, n + 1) := by
  have hls : kBigB (n + 1) = flat (kL0 :: (List.replicate n [114, 111, 119, 115] ++ [[114, 111, 119, 115]])) := by
    rw [show List.replicate n ([114, 111, 119, 115] : Bs) ++ [[114, 111, 119, 115]] = List.replicate (n + 1) [114, 111, 119, 115] from List.replicate_succ'.symm]
    rw [flat, flat_rep]
    unfold kBigB kHead kL0
    simp only [List.append_assoc, List.cons_append, List.nil_append]
  rw [hls]
  refine parseD_bad ?_ (by simp) ?_
  · intro l hl
    simp only [List.mem_cons, List.mem_append, List.mem_replicate, List.not_mem_nil, or_false] at hl
    rcases hl with rfl | ⟨_, rfl⟩ | rfl
    · exact kL0_nonl
    · exact rows_nonl
    · exact rows_nonl
  · rw [foldS, kL0_step]
    simp only
    obtain ⟨ph', h1⟩ := kRows_fold (n := n) (by omega)
    have hp := fold_ph _ _ _ _ _ (by decide) h1
    have h2 := foldS_two (x := [114, 111, 119, 115]) (e := 4) h1 (by
      rw [step_late (by decide) hp]
      rw [show spW [114, 111, 119, 115] = [wRows] by kernel_rfl]
      unfold turnS
      simp only [numsL]
      rw [if_neg (by decide), if_neg (by decide), if_neg (by decide), if_pos trivial]
      unfold addTurn
      rw [if_neg (by decide), if_pos (by rw [List.length_replicate]; omega)]
      rfl)
    rw [List.length_replicate, Nat.add_comm] at h2
    exact h2
theorem kBigC_bad {n : Nat} (hn : n ≤ 4096) : parseD (kBigC n) = .error (2, n + 1) := by
  have hls : kBigC n = flat (kL0 :: (List.replicate n [114, 111, 119, 115] ++ [[112, 105, 99, 107, 32, 48, 32, 48]])) := by
    simp only [flat, flat_append, flat_rep]
    unfold kBigC kHead kL0
    simp only [List.append_assoc, List.cons_append, List.nil_append]
  rw [hls]
  refine parseD_bad ?_ (by simp) ?_
  · intro l hl
    simp only [List.mem_cons, List.mem_append, List.mem_replicate, List.not_mem_nil, or_false] at hl
    rcases hl with rfl | ⟨_, rfl⟩ | rfl
    · exact kL0_nonl
    · exact rows_nonl
    · unfold NoNl; decide
  · rw [foldS, kL0_step]
    simp only
    obtain ⟨ph', h1⟩ := kRows_fold hn
    have hp := fold_ph _ _ _ _ _ (by decide) h1
    have h2 := foldS_two (x := [112, 105, 99, 107, 32, 48, 32, 48]) (e := 2) h1 (by
      rw [step_late (by decide) hp]
      rw [show spW [112, 105, 99, 107, 32, 48, 32, 48] = [wPick, [48], [48]] by kernel_rfl]
      unfold turnS
      simp only
      rw [show numsL [[48], [48]] = some [0, 0] by kernel_rfl]
      simp only
      rw [if_pos trivial]
      unfold addTurn
      rw [if_pos (by decide)]
      rfl)
    rw [List.length_replicate, Nat.add_comm] at h2
    exact h2
end Go.Proofs.YtjnllclpdllceaaGreatDoor
