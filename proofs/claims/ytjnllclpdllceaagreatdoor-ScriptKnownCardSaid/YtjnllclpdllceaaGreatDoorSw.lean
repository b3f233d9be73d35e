/- What the parser's round calls: the text cut off, the words, the next line's reader. -/
import Derived.Test.YtjnllclpdllceaaGreatDoorSo
import Derived.Lib.CountLaws
import Derived.Laws.EntriesVeiled
namespace Go.Proofs.YtjnllclpdllceaaGreatDoor
set_option linter.unusedSimpArgs false
set_option linter.unusedVariables false
open Go.RowKit Go.Shelf

set_option maxHeartbeats 1000000 in
theorem lines_any (s : ByteArray) (w : World) :
    Calls Tryz.prog 36 #[.string s] w fun e w' => e = .returned (.func (.func 56) #[] #[.pointer (some ⟨w.heap.size, 0, none⟩)]) ∧ w' = w.alloc (.cells #[.string s] 9) := by
  go_enter Tryz.func36, Tryz.ntmps36
  go_wp2
  go_ret
  exact ⟨rfl, rfl⟩

/-- The greatest length is laid. -/
def Mx (w : World) : Prop := ∃ m, w.cell? ⟨0, 0, none⟩ = some (.int .i64 m)
theorem Mx.turn {w w' : World} (h : Mx w) (t : Turn Nn w w') : Mx w' := h.imp fun _ hm => cell_turn t hm
theorem Mx.below {a w : World} (h : Mx a) (t : Below a.heap.size a w) : Mx w := h.turn (Turn.of_below t)

theorem index32 : ∀ (l : Bs), Lib.index l [32] = Lib.indexByte l 32
  | [] => rfl
  | x :: r => by
    have ih := index32 r
    unfold Lib.index Lib.indexByte
    rw [ih]
    by_cases h : x = 32
    · subst h; rfl
    · have e1 : ([32] : Bs).isPrefixOf (x :: r) = false := by
        simp only [List.isPrefixOf, Bool.and_true]
        rw [beq_eq_false_iff_ne]
        exact fun e => h e.symm
      have e2 : (x == 32) = false := by rw [beq_eq_false_iff_ne]; exact h
      rw [e1, e2]

theorem indexByte_first : ∀ (a b : Bs), (∀ c ∈ a, c ≠ 32) → Lib.indexByte (a ++ 32 :: b) 32 = (a.length : Int)
  | [], b, _ => rfl
  | x :: r, b, h => by
    have ih := indexByte_first r b (fun c hc => h c (List.mem_cons_of_mem _ hc))
    have hx : x ≠ 32 := h x (List.mem_cons_self)
    rw [List.cons_append, Lib.indexByte, ih, if_neg (by simpa using hx), if_neg (by simp <;> omega)]
    simp

theorem indexByte_no : ∀ (a : Bs), (∀ c ∈ a, c ≠ 32) → Lib.indexByte a 32 = -1
  | [], _ => rfl
  | x :: r, h => by
    have ih := indexByte_no r (fun c hc => h c (List.mem_cons_of_mem _ hc))
    have hx : x ≠ 32 := h x (List.mem_cons_self)
    rw [Lib.indexByte, ih, if_neg (by simpa using hx)]
    rfl

theorem first32 : ∀ (l : Bs), (∀ c ∈ l, c ≠ 32) ∨ ∃ a b, l = a ++ 32 :: b ∧ ∀ c ∈ a, c ≠ 32
  | [] => .inl (by simp)
  | x :: r => by
    by_cases h : x = 32
    · exact .inr ⟨[], r, by rw [h]; rfl, by simp⟩
    · rcases first32 r with h2 | ⟨a, b, h2, h3⟩
      · left
        intro c hc
        rcases List.mem_cons.1 hc with rfl | hc
        · exact h
        · exact h2 c hc
      · refine .inr ⟨x :: a, b, by rw [h2]; rfl, fun c hc => ?_⟩
        rcases List.mem_cons.1 hc with rfl | hc
        · exact h
        · exact h3 c hc

theorem split_spW : ∀ (n : Nat) (l : Bs), l.length ≤ n → Lib.splitK [32] 0 (Lib.count l [32]) l = spW l
  | n, l, hn => by
    rcases first32 l with h | ⟨a, b, rfl, h⟩
    · rw [Lib.count_miss (by rw [index32]; exact indexByte_no l h), spW_last l h]
      rfl
    · have hi : Lib.index (a ++ 32 :: b) [32] = (a.length : Int) := by rw [index32]; exact indexByte_first a b h
      cases n with
      | zero => simp at hn
      | succ n =>
        have hd : (a ++ 32 :: b).drop (a.length + ([32] : Bs).length) = b := by
          rw [show a ++ 32 :: b = (a ++ [32]) ++ b by simp]
          exact List.drop_left' (by simp)
        have ih := split_spW n b (by simp at hn; omega)
        rw [Lib.count_hit (by simp) hi, hd, Nat.add_comm 1, Lib.splitK, hi, spW_word a b h]
        rw [if_neg (by simp <;> omega)]
        rw [show ((a.length : Int).toNat + ([32] : Bs).length) = a.length + ([32] : Bs).length by simp, hd, ih]
        congr 1
        rw [List.take_append_of_le_length (by simp)]
        simp

theorem spW_count : ∀ (n : Nat) (l : Bs), l.length ≤ n → (spW l).length = Lib.count l [32] + 1
  | n, l, hn => by
    rcases first32 l with h | ⟨a, b, rfl, h⟩
    · rw [Lib.count_miss (by rw [index32]; exact indexByte_no l h), spW_last l h]
      rfl
    · have hi : Lib.index (a ++ 32 :: b) [32] = (a.length : Int) := by rw [index32]; exact indexByte_first a b h
      cases n with
      | zero => simp at hn
      | succ n =>
        have hd : (a ++ 32 :: b).drop (a.length + ([32] : Bs).length) = b := by
          rw [show a ++ 32 :: b = (a ++ [32]) ++ b by simp]
          exact List.drop_left' (by simp)
        have ih := spW_count n b (by simp at hn; omega)
        rw [Lib.count_hit (by simp) hi, hd, spW_word a b h, List.length_cons, ih]
        omega

theorem spW_length : ∀ (l : Bs), (spW l).length ≤ l.length + 1
  | [] => by simp [spW]
  | x :: r => by
    have ih := spW_length r
    unfold spW
    split
    · simp; omega
    · split
      · simp
      · rename_i w ws e
        rw [e] at ih
        simp at ih ⊢; omega

theorem spW_word_le : ∀ (l : Bs), ∀ x ∈ spW l, x.length ≤ l.length
  | [], x, h => by simp [spW] at h; subst h; simp
  | c :: r, x, h => by
    have ih := spW_word_le r
    unfold spW at h
    split at h
    · rcases List.mem_cons.1 h with rfl | h
      · simp
      · have := ih x h; simp; omega
    · split at h
      · rename_i e
        have : x = [c] := by simpa using h
        subst this; simp
      · rename_i w ws e
        rw [e] at ih
        rcases List.mem_cons.1 h with rfl | h
        · have := ih w (List.mem_cons_self); simp; omega
        · have := ih x (List.mem_cons_of_mem _ h); simp; omega

theorem split_any (a : Bs) (ha : a.length ≤ 1000000) {w : World} (hm : Mx w) :
    Calls Tryz.prog 38 #[.string (BT a), .string ⟨#[32]⟩] w fun e w' => ∃ v, e = .returned v ∧ StrSl w' v (spW a) ∧ (∀ ad n c, v = .slice (some ad) n c → ad.block = w.heap.size) ∧ Turn Nn w w' := by
  obtain ⟨m, hm⟩ := hm
  refine (Tryz.strings_Split (BT a) ⟨#[32]⟩ m w (by show a.length < _; omega) hm (by decide)).mono ?_
  rintro e w' ⟨rfl, rfl⟩
  have hd : (Lib.splitB ⟨#[32]⟩ 0 (Lib.countB (BT a) ⟨#[32]⟩) (BT a)).map (·.data.toList) = spW a := by
    rw [Lib.splitB_data]
    exact split_spW _ a (Nat.le_refl _)
  obtain ⟨L, hL⟩ : ∃ L, Lib.splitB ⟨#[32]⟩ 0 (Lib.countB (BT a) ⟨#[32]⟩) (BT a) = L := ⟨_, rfl⟩
  rw [hL] at hd ⊢
  have hlen : Lib.countB (BT a) ⟨#[32]⟩ + 1 = (spW a).length := (spW_count _ a (Nat.le_refl _)).symm
  refine ⟨_, rfl, .inr ⟨w.heap.size, 0, _, by rw [hlen], Nat.le_of_eq hlen.symm, fun i hi => ?_⟩, fun ad n c e => by cases e; rfl, (Turn.refl _ _).alloc _⟩
  rw [cell_blk (World.alloc_heap_new w _), Nat.zero_add]
  have e1 : (spW a)[i]? = (L.map (·.data.toList))[i]? := by rw [hd]
  rw [List.getElem?_map] at e1
  simp only [List.getElem?_toArray, List.getElem?_map]
  cases hx : L[i]? with
  | none => rw [hx] at e1; simp at e1; omega
  | some x =>
    rw [hx] at e1
    simp only [Option.map_some] at e1 ⊢
    rw [e1]
    rfl

/-- The number of the function that reads the next line. -/
def fnOf (ph : Nat) : Nat := if ph = 0 then 35 else if ph = 1 then 55 else 75

/-- What the next line's reader answers. -/
def SPost (w : World) (B r : Nat) (v : Value) (x : Except Int (Nat × ScriptD)) (e : Ending) (w' : World) : Prop :=
  (match x with
    | .error c => e = .returned (.int .i64 c)
    | .ok p => e = .returned (.int .i64 0) ∧ ∃ v', RAt w' B r p.1 p.2 v' ∧ (v'.ownBlock = v.ownBlock ∨ ∃ k, v'.ownBlock = some k ∧ w.heap.size ≤ k)) ∧ Turn (RS r v) w w'

theorem RPostV.step {w : World} {B r ph : Nat} {v : Value} {x : Except Int ScriptD} {e : Ending} {w' : World} (h : RPostV w B r ph v x e w') : SPost w B r v (x.map fun s => (ph, s)) e w' := by
  cases x with
  | error c => exact h
  | ok s => exact h

theorem next_any {w0 w : World} {r ph : Nat} {s : ScriptD} {v wv : Value} {L : List Bs} (h0 : Laid w0) (hb0 : Below w0.heap.size w0 w) (h : RAt w w0.heap.size r ph s v) (hph : ph ≤ 2) (htw : ph = 0 → s.twin = false) (hst : s.turns.length ≤ 4096) (hmod : s.mod.length ≤ 65536)
    (hw : StrSl w wv L) (hL : L ≠ []) (hne : ∀ a n c, wv = .slice (some a) n c → a.block ≠ r) (hLl : L.length ≤ 800000) (hs : ∀ i, i < L.length → (L[i]?.getD []).length ≤ 1000000) :
    Calls Tryz.prog (fnOf ph) #[.pointer (some ⟨r, 0, none⟩), wv] w (SPost w w0.heap.size r v (stepS ph s L)) := by
  obtain rfl | rfl | rfl : ph = 0 ∨ ph = 1 ∨ ph = 2 := by omega
  · exact (machine_any h0 hb0 h (htw rfl) hw hL hne (by omega) hs).mono fun e w' hp => hp.any.step
  · refine (bytes_any h0 hb0 h hst hmod hw hL hne hLl hs).mono fun e w' hp => ?_
    by_cases hh : L.head? = some wBytes
    · rw [if_pos hh] at hp
      have : stepS 1 s L = (bytesS s L).map fun s => (1, s) := by unfold stepS; rw [if_neg (by omega), if_pos ⟨rfl, hh⟩]
      rw [this]
      exact hp.step
    · rw [if_neg hh] at hp
      have : stepS 1 s L = (turnS s L).map fun s => (2, s) := by unfold stepS; rw [if_neg (by omega), if_neg (fun h => hh h.2)]
      rw [this]
      exact hp.step
  · refine (rturn_any h0 hb0 h hst hw hL (by omega) hs).mono fun e w' hp => ?_
    have : stepS 2 s L = (turnS s L).map fun s => (2, s) := by unfold stepS; rw [if_neg (by omega), if_neg (fun h => absurd h.1 (by omega))]
    rw [this]
    exact hp.step

theorem cutSuffix_yes (a : Bs) (ha : a.length ≤ 1000000) (w : World) :
    Calls Tryz.prog 37 #[.string (BT (a ++ [10])), .string ⟨#[10]⟩] w fun e w' => e = .returned (.tuple #[.string (BT a), .bool true]) ∧ w' = w := by
  refine (Tryz.strings_CutSuffix (BT (a ++ [10])) ⟨#[10]⟩ w (by show (a ++ [10]).length ≤ _; simp; omega)).mono ?_
  rintro e w' ⟨rfl, rfl⟩
  have h1 : Lib.hasSuffix (BT (a ++ [10])).data.toList (⟨#[10]⟩ : ByteArray).data.toList = true := by
    show Lib.hasSuffix (a ++ [10]) [10] = true
    unfold Lib.hasSuffix
    rw [List.isSuffixOf_iff_suffix]
    exact ⟨a, rfl⟩
  refine ⟨?_, rfl⟩
  unfold Lib.trimSuffix
  rw [h1]
  simp [BT]

theorem cutSuffix_no {t : Bs} (h : NoNl t) (ht : t.length ≤ 1000000) (w : World) :
    Calls Tryz.prog 37 #[.string (BT t), .string ⟨#[10]⟩] w fun e w' => e = .returned (.tuple #[.string (BT t), .bool false]) ∧ w' = w := by
  refine (Tryz.strings_CutSuffix (BT t) ⟨#[10]⟩ w (by show t.length ≤ _; omega)).mono ?_
  rintro e w' ⟨rfl, rfl⟩
  have h1 : Lib.hasSuffix (BT t).data.toList (⟨#[10]⟩ : ByteArray).data.toList = false := by
    rw [Bool.eq_false_iff]
    intro hh
    have hh : Lib.hasSuffix t [10] = true := hh
    unfold Lib.hasSuffix at hh
    rw [List.isSuffixOf_iff_suffix] at hh
    obtain ⟨a, ha⟩ := hh
    exact h 10 (by rw [← ha]; simp) rfl
  refine ⟨?_, rfl⟩
  unfold Lib.trimSuffix
  rw [h1]
  simp [BT]

theorem cutL_nonl : ∀ {t : Bs}, cutL t = none → NoNl t
  | [], _ => by intro c hc; simp at hc
  | x :: r, hn => by
    intro c hc
    unfold cutL at hn
    split at hn
    · cases hn
    · rename_i hx
      rcases List.mem_cons.1 hc with rfl | hc
      · exact hx
      · refine cutL_nonl ?_ c hc
        cases hr : cutL r with
        | none => rfl
        | some p => rw [hr] at hn; simp at hn

/-- What is kept of the state, line by line. -/
structure SOk (ph : Nat) (s : ScriptD) : Prop where
  ph2 : ph ≤ 2
  tw : ph = 0 → s = zeroS
  nt : ph = 1 → s.turns = []
  mod : s.mod.length ≤ 65536
  turns : s.turns.length ≤ 4096

theorem addTurn_ok {s s' : ScriptD} {t : TurnD} (h : addTurn s t = .ok s') : s'.mod = s.mod ∧ s'.turns = s.turns ++ [t] ∧ s'.turns.length ≤ 4096 := by
  unfold addTurn at h
  split at h
  · cases h
  · split at h
    · cases h
    · cases h
      refine ⟨rfl, rfl, ?_⟩
      simp; omega

theorem turnS_ok {s s' : ScriptD} {L : List Bs} (h : turnS s L = .ok s') : s'.mod = s.mod ∧ (∃ t, s'.turns = s.turns ++ [t]) ∧ s'.turns.length ≤ 4096 := by
  have key : ∀ t, addTurn s t = .ok s' → s'.mod = s.mod ∧ (∃ t, s'.turns = s.turns ++ [t]) ∧ s'.turns.length ≤ 4096 := fun t h => ⟨(addTurn_ok h).1, ⟨t, (addTurn_ok h).2.1⟩, (addTurn_ok h).2.2⟩
  unfold turnS at h
  split at h
  · cases h
  · split at h
    · cases h
    · split at h
      · split at h
        · exact key _ h
        · cases h
      · split at h
        · split at h
          · exact key _ h
          · cases h
        · split at h
          · split at h
            · exact key _ h
            · cases h
          · split at h
            · split at h
              · exact key _ h
              · cases h
            · cases h

theorem bytesS_ok {s s' : ScriptD} {L : List Bs} (h : bytesS s L = .ok s') : s'.turns = s.turns ∧ s'.mod.length ≤ 65536 := by
  unfold bytesS at h
  split at h
  · split at h
    · cases h
    · split at h
      · cases h
      · split at h
        · cases h
        · cases h
          refine ⟨rfl, ?_⟩
          simp; omega
  · cases h

theorem machineS_keeps {s s' : ScriptD} {L : List Bs} (h : machineS s L = .ok s') : s'.turns = s.turns ∧ s'.mod = s.mod := by
  unfold machineS at h
  simp only at h
  split at h
  · cases h
  · split at h
    · split at h
      · split at h
        · cases h; exact ⟨rfl, rfl⟩
        · cases h
      · cases h
    · cases h

theorem SOk.step {ph : Nat} {s : ScriptD} {L : List Bs} {p : Nat × ScriptD} (h : SOk ph s) (e : stepS ph s L = .ok p) : SOk p.1 p.2 ∧ 1 ≤ p.1 := by
  unfold stepS at e
  split at e
  · rename_i h0
    cases hm : machineS s L with
    | error c => rw [hm] at e; cases e
    | ok s' =>
      rw [hm] at e; cases e
      obtain ⟨h1, h2⟩ := machineS_keeps hm
      have hz := h.tw h0
      show SOk 1 s' ∧ 1 ≤ 1
      refine ⟨⟨by omega, fun h => absurd h (by omega), fun _ => ?_, ?_, ?_⟩, Nat.le_refl _⟩
      · rw [h1, hz]; rfl
      · rw [h2]; exact h.mod
      · rw [h1]; exact h.turns
  · split at e
    · rename_i h0 h1
      cases hm : bytesS s L with
      | error c => rw [hm] at e; cases e
      | ok s' =>
        rw [hm] at e; cases e
        obtain ⟨h2, h3⟩ := bytesS_ok hm
        show SOk 1 s' ∧ 1 ≤ 1
        refine ⟨⟨by omega, fun h => absurd h (by omega), fun _ => ?_, h3, ?_⟩, Nat.le_refl _⟩
        · rw [h2]; exact h.nt h1.1
        · rw [h2]; exact h.turns
    · cases hm : turnS s L with
      | error c => rw [hm] at e; cases e
      | ok s' =>
        rw [hm] at e; cases e
        obtain ⟨h2, _, h4⟩ := turnS_ok hm
        show SOk 2 s' ∧ 1 ≤ 2
        refine ⟨⟨by omega, fun h => absurd h (by omega), fun h => absurd h (by omega), ?_, h4⟩, by omega⟩
        rw [h2]; exact h.mod
end Go.Proofs.YtjnllclpdllceaaGreatDoor
