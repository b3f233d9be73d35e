/- Plain lists: a byte that is no digit, and where the library finds it. The program's walks: a number, the parts of an actor's name. The program's walks: the words of a text, the parts of an actor's name. The program's walks: the parts of an actor's name. -/
import Derived.Test.YtpbjblbeepbklaaGreatDoorKa
import Derived.Lib.DecodeN
import Derived.Shelf.GgClosure.StringsIndexFunc
import Derived.Test.YtpbjblbeepbklaaGreatDoorShelf
import Derived.Test.YtpbjblbeepbklaaGreatDoorKb
import Derived.Lib.CountLaws
import Derived.Laws.MakeOwn
import Derived.Shelf.Vars
namespace Go.Proofs.YtpbjblbeepbklaaGreatDoor
set_option linter.unusedSimpArgs false
set_option linter.unusedVariables false
section
open Go.Lib

def notDig (n : Nat) : Bool := decide (n < 48) || decide (57 < n)
theorem decodeN_big (n b0 b1 b2 b3 : Nat) (h : 128 ≤ b0) : 128 ≤ (decodeN n b0 b1 b2 b3).1 := by
  unfold decodeN
  rw [if_neg (by omega)]
  split
  · split <;> simp <;> omega
  · split
    · split <;> simp <;> omega
    · split
      · split <;> simp <;> omega
      · simp
theorem decode_byte (s : ByteArray) (i : Nat) (h : notDig (Utf8.decode s i).1 = false) : (Utf8.decode s i) = ((s.get! i).toNat, 1) ∧ notDig (s.get! i).toNat = false := by
  rw [decode_at] at h ⊢
  by_cases h2 : (s.get! i).toNat < 128
  · have e : decodeN (s.size - i) (s.get! i).toNat (s.get! (i + 1)).toNat (s.get! (i + 2)).toNat (s.get! (i + 3)).toNat = ((s.get! i).toNat, 1) := by unfold decodeN; rw [if_pos h2]
    rw [e] at h ⊢
    exact ⟨rfl, h⟩
  · exfalso
    have := decodeN_big (s.size - i) (s.get! i).toNat (s.get! (i + 1)).toNat (s.get! (i + 2)).toNat (s.get! (i + 3)).toNat (by omega)
    unfold notDig at h
    simp at h
    omega
theorem decode_digit (s : ByteArray) (i : Nat) (h : notDig (s.get! i).toNat = false) : Utf8.decode s i = ((s.get! i).toNat, 1) := by
  rw [decode_at]
  unfold decodeN
  unfold notDig at h
  simp at h
  rw [if_pos (by omega)]
theorem get_bt (l : Bs) (i : Nat) (h : i < l.length) : (ByteArray.mk l.toArray).get! i = l[i] := by
  show (l.toArray)[i]! = l[i]
  simp [h]
theorem idx_from (l : Bs) : ∀ (f pos : Nat), pos + f = l.length → (0 ≤ Lib.idxFuncFrom notDig true ⟨l.toArray⟩ f pos ↔ ∃ c ∈ l.drop pos, notDig c.toNat = true)
  | 0, pos, h => by
    rw [List.drop_of_length_le (by omega)]
    simp [Lib.idxFuncFrom]
  | f + 1, pos, h => by
    have hp : pos < l.length := by omega
    have hs : (ByteArray.mk l.toArray).size = l.length := by simp [ByteArray.size]
    have hg := get_bt l pos hp
    rw [Lib.idxFuncFrom, hs, if_pos hp, List.drop_eq_getElem_cons hp]
    cases hd : notDig (l[pos]).toNat with
    | false =>
      rw [decode_digit _ _ (by rw [hg]; exact hd), hg]
      simp only
      rw [hd, if_neg (by decide), idx_from l f (pos + 1) (by omega)]
      constructor
      · rintro ⟨c, hc, h⟩; exact ⟨c, List.mem_cons_of_mem _ hc, h⟩
      · rintro ⟨c, hc, h⟩
        rcases List.mem_cons.1 hc with rfl | hc
        · rw [hd] at h; cases h
        · exact ⟨c, hc, h⟩
    | true =>
      have hdd : notDig (Utf8.decode ⟨l.toArray⟩ pos).1 = true := by
        cases hx : notDig (Utf8.decode ⟨l.toArray⟩ pos).1 with
        | true => rfl
        | false =>
          have := (decode_byte _ _ hx).2
          rw [hg, hd] at this; cases this
      rw [if_pos hdd]
      constructor
      · intro _; exact ⟨_, List.mem_cons_self, hd⟩
      · intro _; omega
theorem idx_any (l : Bs) : decide (0 ≤ Lib.idxFunc notDig true ⟨l.toArray⟩) = l.any fun c => notDig c.toNat := by
  rw [Bool.eq_iff_iff, decide_eq_true_eq, List.any_eq_true]
  have := idx_from l l.length 0 (by omega)
  rw [List.drop_zero] at this
  unfold Lib.idxFunc
  have hs : (ByteArray.mk l.toArray).size = l.length := by simp [ByteArray.size]
  rw [hs]
  exact this
theorem valGo_some : ∀ (l : Bs) (acc : Nat), (valGo acc l).isSome = !(l.any fun c => notDig c.toNat)
  | [], _ => rfl
  | c :: r, acc => by
    unfold valGo
    by_cases h : 48 ≤ c.toNat ∧ c.toNat ≤ 57
    · rw [if_pos h, valGo_some r, List.any_cons]
      have : notDig c.toNat = false := by unfold notDig; simp; omega
      rw [this, Bool.false_or]
    · rw [if_neg h, List.any_cons]
      have : notDig c.toNat = true := by unfold notDig; simp; omega
      rw [this]; rfl
/-- What the program asks of a number's text. -/
theorem num_some (l : Bs) : (numL l).isSome = (decide (1 ≤ l.length) && decide (l.length ≤ 9) && !(l.any fun c => notDig c.toNat) && (decide (l = [48]) || decide (l.head? ≠ some 48))) := by
  rw [← refNum_numL]
  unfold refNum
  by_cases h1 : l.length < 1
  · rw [if_pos (.inl h1), decide_eq_false (show ¬ 1 ≤ l.length by omega)]; rfl
  · by_cases h2 : 9 < l.length
    · rw [if_pos (.inr (.inl h2)), decide_eq_false (show ¬ l.length ≤ 9 by omega)]; simp
    · by_cases h3 : l.head? = some 48 ∧ 1 < l.length
      · rw [if_pos (.inr (.inr h3))]
        have e1 : ¬ l = [48] := by rintro rfl; simp at h3
        rw [decide_eq_false e1, decide_eq_false (show ¬ l.head? ≠ some 48 from fun h => h h3.1)]; simp
      · rw [if_neg (by rintro (h | h | h); exact h1 h; exact h2 h; exact h3 h), valGo_some, decide_eq_true (show 1 ≤ l.length by omega), decide_eq_true (show l.length ≤ 9 by omega)]
        have : (decide (l = [48]) || decide (l.head? ≠ some 48)) = true := by
          by_cases h4 : l.head? = some 48
          · have : l.length = 1 := by
              have h5 : ¬ 1 < l.length := fun h => h3 ⟨h4, h⟩
              omega
            match l, this, h4 with
            | [c], _, h4 => simp at h4; subst h4; rfl
          · rw [decide_eq_true h4]; simp
        rw [this]; simp
end
section
open Go.RowKit Go.Shelf

theorem other_at (W : World) (r : Nat) : FnGives Tryz.prog 84 #[] #[encR r] (.bool (notDig r)) W := by
  unfold FnGives notDig encR
  by_cases h : r < 48
  · have h1 : ((r : Int) < 48) := by omega
    rw [decide_eq_true h]
    go_enter Tryz.func84, Tryz.ntmps84
    go_wp2_with fail
    go_ret
    exact ⟨rfl, 0, rfl⟩
  · have h1 : ¬ ((r : Int) < 48) := by omega
    by_cases h2 : 57 < r
    · have h3 : (57 : Int) < (r : Int) := by omega
      rw [decide_eq_false h, decide_eq_true h2]
      go_enter Tryz.func84, Tryz.ntmps84
      go_wp2_with fail
      go_ret
      exact ⟨rfl, 0, rfl⟩
    · have h3 : ¬ (57 : Int) < (r : Int) := by omega
      rw [decide_eq_false h, decide_eq_false h2]
      go_enter Tryz.func84, Tryz.ntmps84
      go_wp2_with fail
      go_ret
      exact ⟨rfl, 0, rfl⟩
theorem BT_toList (l : Bs) : (BT l).toList = l := by rw [Lib.toList_data]; unfold BT; simp
theorem contains_any (l : Bs) (w : World) : Calls Tryz.prog 85 #[.string (BT l), .func (.func 84) #[] #[]] w fun e w' => e = .returned (.bool (l.any fun c => notDig c.toNat)) ∧ Turn Nn w w' := by
  have h := Tryz.strings_ContainsFunc 84 #[] (enters_of Tryz.func84 (by kernel_rfl) rfl) notDig (BT l) w (fun W r _ => other_at W r)
  refine h.mono ?_
  rintro e w' ⟨rfl, hb⟩
  exact ⟨by rw [← idx_any]; rfl, Turn.of_below hb⟩
theorem numB_split (l : Bs) : numB l = (decide (1 ≤ l.length) && decide (l.length ≤ 9) && !(l.any fun c => notDig c.toNat) && (decide (l = [48]) || decide (l.head? ≠ some 48))) := num_some l
set_option maxRecDepth 100000 in
set_option maxHeartbeats 8000000 in
theorem number_any {l : Bs} (hl : l.length ≤ 4000000) (w : World) : Calls Tryz.prog 58 #[.string (BT l)] w fun e w' => e = .returned (.bool (numB l)) ∧ Turn Nn w w' := by
  have HC := Lib.hid (contains_any l w)
  rw [numB_split]
  obtain ⟨x, hx⟩ : ∃ x, (l.any fun c => notDig c.toNat) = x := ⟨_, rfl⟩
  rw [hx] at HC ⊢
  obtain ⟨M, hM⟩ : ∃ M, BT l = M := ⟨_, rfl⟩
  have hMs : M.size = l.length := by rw [← hM, BT_size]
  cases l with
  | nil =>
    have e0 : M = ⟨#[]⟩ := by rw [← hM]; rfl
    subst e0
    rw [hM]
    clear hM hMs hx HC
    go_enter Tryz.func58, Tryz.ntmps58
    go_wp2_with fail
    go_ret
    exact ⟨rfl, Turn.refl _ _⟩
  | cons c r =>
    have hML : M.toList = c :: r := by rw [← hM]; exact BT_toList _
    have hne : ¬ M.toList = [] := by rw [hML]; simp
    have hi0 : ∀ w, (Instr.index 9 (.string M) (.int .i64 0)).run Tryz.prog w = .ok (.int .u8 (c.toNat : Int)) w := fun w => by
      rw [← hM]
      exact BT_at (s := c :: r) (k := 0) (by simp) w
    have e1 : decide (1 ≤ (c :: r).length) = true := decide_eq_true (by simp)
    rw [e1, Bool.true_and]
    obtain ⟨n, hn⟩ : ∃ n, (c :: r).length = n := ⟨_, rfl⟩
    rw [hn] at hMs hl ⊢
    by_cases h9 : n ≤ 9
    · rw [decide_eq_true h9, Bool.true_and]
      have h9' : (n : Int) ≤ 9 := by omega
      cases x with
      | true =>
        rw [hM] at HC ⊢
        clear hM hx hi0 e1 hn hML
        go_enter Tryz.func58, Tryz.ntmps58
        go_wp2_with fail
        refine HC.out.mono ?_
        rintro e w2 ⟨rfl, t⟩
        have HT := Lib.hid t
        clear t
        go_wp2_with fail
        go_ret
        exact ⟨rfl, HT.out⟩
      | false =>
        have ez : (decide (c :: r = [48]) || decide ((c :: r).head? ≠ some 48)) = ((M.toList == [48]) || !(decide (c = 48))) := by
          have a1 : decide (c :: r = [48]) = (M.toList == [48]) := by rw [hML, Bool.eq_iff_iff, decide_eq_true_eq, beq_iff_eq]
          have a2 : decide ((c :: r).head? ≠ some 48) = !(decide (c = 48)) := by
            rw [← decide_not]
            exact decide_eq_decide.2 (by simp)
          rw [a1, a2]
        have eb := u8_beq c 48
        have n48 : ((48 : UInt8).toNat : Int) = 48 := rfl
        rw [n48] at eb
        rw [ez]
        obtain ⟨y, hy⟩ : ∃ y, (M.toList == [48]) = y := ⟨_, rfl⟩
        obtain ⟨z, hz⟩ : ∃ z, decide (c = 48) = z := ⟨_, rfl⟩
        rw [hz] at eb
        rw [hM] at HC ⊢
        rw [hy, hz]
        cases y with
        | true =>
          have hy2 : M.toList = [48] := eq_of_beq hy
          clear hM hx hi0 e1 hn ez eb n48 hz hML hy hne
          go_enter Tryz.func58, Tryz.ntmps58
          go_wp2_with fail
          refine HC.out.mono ?_
          rintro e w2 ⟨rfl, t⟩
          have HT := Lib.hid t
          clear t
          go_wp2_with fail
          go_ret
          exact ⟨rfl, HT.out⟩
        | false =>
          have hy2 : ¬ M.toList = [48] := ne_of_beq_false hy
          cases z with
          | true =>
            have hc48 : ((c.toNat : Int) = 48) := by simpa using eb
            rw [hc48] at hi0
            clear hM hx e1 hn ez eb n48 hz hc48 hML hy
            go_enter Tryz.func58, Tryz.ntmps58
            go_wp2_with fail
            refine HC.out.mono ?_
            rintro e w2 ⟨rfl, t⟩
            have HT := Lib.hid t
            clear t
            go_wp2_with fail
            go_ret
            exact ⟨by simp [hne, hy2], HT.out⟩
          | false =>
            have hc48 : ¬ ((c.toNat : Int) = 48) := by simpa using eb
            clear hM hx e1 hn ez n48 hz hML hy
            go_enter Tryz.func58, Tryz.ntmps58
            go_wp2_with fail
            refine HC.out.mono ?_
            rintro e w2 ⟨rfl, t⟩
            have HT := Lib.hid t
            clear t
            go_wp2_with fail
            go_ret
            exact ⟨by simp [hne, hy2, hc48], HT.out⟩
    · rw [decide_eq_false h9]
      have h9' : ¬ (n : Int) ≤ 9 := by omega
      rw [hM]
      clear hM hx hi0 e1 hn HC hML
      go_enter Tryz.func58, Tryz.ntmps58
      go_wp2_with fail
      go_ret
      exact ⟨rfl, Turn.refl _ _⟩
end
section
open Go.RowKit Go.Shelf

/-- What is laid. -/
structure Laid (w : World) : Prop where
  mx : ∃ m, w.cell? ⟨0, 0, none⟩ = some (.int .i64 m)
  pow : Lib.TabIs Tryz.prog w "internal/strconv.uint64pow10" .u64 Lib.pow10Tab
  syn : ∃ te pe, w.cell? ⟨2, 0, none⟩ = some (.iface te pe)
  rng : ∃ te pe, w.cell? ⟨3, 0, none⟩ = some (.iface te pe)
theorem Laid.turn {w w' : World} (h : Laid w) (t : Turn Nn w w') : Laid w' :=
  ⟨h.mx.imp fun _ hm => cell_turn t hm, var_turn t h.pow, let ⟨a, b, c⟩ := h.syn; ⟨a, b, cell_turn t c⟩, let ⟨a, b, c⟩ := h.rng; ⟨a, b, cell_turn t c⟩⟩
theorem indexC (k : UInt8) : ∀ (l : Bs), Lib.index l [k] = Lib.indexByte l k
  | [] => rfl
  | x :: r => by
    have ih := indexC k r
    unfold Lib.index Lib.indexByte
    rw [ih]
    by_cases h : x = k
    · subst h
      have e1 : ([x] : Bs).isPrefixOf (x :: r) = true := by simp [List.isPrefixOf]
      rw [e1]
      simp
    · have e1 : ([k] : Bs).isPrefixOf (x :: r) = false := by
        simp only [List.isPrefixOf, Bool.and_true]
        rw [beq_eq_false_iff_ne]
        exact fun e => h e.symm
      have e2 : (x == k) = false := by rw [beq_eq_false_iff_ne]; exact h
      rw [e1, e2]
theorem indexByte_first (k : UInt8) : ∀ (a b : Bs), (∀ c ∈ a, c ≠ k) → Lib.indexByte (a ++ k :: b) k = (a.length : Int)
  | [], b, _ => by simp [Lib.indexByte]
  | x :: r, b, h => by
    have ih := indexByte_first k r b (fun c hc => h c (List.mem_cons_of_mem _ hc))
    have hx : x ≠ k := h x (List.mem_cons_self)
    rw [List.cons_append, Lib.indexByte, ih, if_neg (by simpa using hx), if_neg (by simp <;> omega)]
    simp
theorem indexByte_no (k : UInt8) : ∀ (a : Bs), (∀ c ∈ a, c ≠ k) → Lib.indexByte a k = -1
  | [], _ => rfl
  | x :: r, h => by
    have ih := indexByte_no k r (fun c hc => h c (List.mem_cons_of_mem _ hc))
    have hx : x ≠ k := h x (List.mem_cons_self)
    rw [Lib.indexByte, ih, if_neg (by simpa using hx)]
    rfl
theorem firstC (k : UInt8) : ∀ (l : Bs), (∀ c ∈ l, c ≠ k) ∨ ∃ a b, l = a ++ k :: b ∧ ∀ c ∈ a, c ≠ k
  | [] => .inl (by simp)
  | x :: r => by
    by_cases h : x = k
    · exact .inr ⟨[], r, by rw [h]; rfl, by simp⟩
    · rcases firstC k r with h2 | ⟨a, b, h2, h3⟩
      · left
        intro c hc
        rcases List.mem_cons.1 hc with rfl | hc
        · exact h
        · exact h2 c hc
      · refine .inr ⟨x :: a, b, by rw [h2]; rfl, fun c hc => ?_⟩
        rcases List.mem_cons.1 hc with rfl | hc
        · exact h
        · exact h3 c hc
theorem split_spC (k : UInt8) : ∀ (n : Nat) (l : Bs), l.length ≤ n → Lib.splitK [k] 0 (Lib.count l [k]) l = spC k l
  | n, l, hn => by
    rcases firstC k l with h | ⟨a, b, rfl, h⟩
    · rw [Lib.count_miss (by rw [indexC]; exact indexByte_no k l h), spC_last k l h]
      rfl
    · have hi : Lib.index (a ++ k :: b) [k] = (a.length : Int) := by rw [indexC]; exact indexByte_first k a b h
      cases n with
      | zero => simp at hn
      | succ n =>
        have hd : (a ++ k :: b).drop (a.length + ([k] : Bs).length) = b := by
          rw [show a ++ k :: b = (a ++ [k]) ++ b by simp]
          exact List.drop_left' (by simp)
        have ih := split_spC k n b (by simp at hn; omega)
        rw [Lib.count_hit (by simp) hi, hd, Nat.add_comm 1, Lib.splitK, hi, spC_word k a b h]
        rw [if_neg (by simp <;> omega)]
        rw [show ((a.length : Int).toNat + ([k] : Bs).length) = a.length + ([k] : Bs).length by simp, hd, ih]
        congr 1
        rw [List.take_append_of_le_length (by simp)]
        simp
theorem spC_count (k : UInt8) : ∀ (n : Nat) (l : Bs), l.length ≤ n → (spC k l).length = Lib.count l [k] + 1
  | n, l, hn => by
    rcases firstC k l with h | ⟨a, b, rfl, h⟩
    · rw [Lib.count_miss (by rw [indexC]; exact indexByte_no k l h), spC_last k l h]
      rfl
    · have hi : Lib.index (a ++ k :: b) [k] = (a.length : Int) := by rw [indexC]; exact indexByte_first k a b h
      cases n with
      | zero => simp at hn
      | succ n =>
        have hd : (a ++ k :: b).drop (a.length + ([k] : Bs).length) = b := by
          rw [show a ++ k :: b = (a ++ [k]) ++ b by simp]
          exact List.drop_left' (by simp)
        have ih := spC_count k n b (by simp at hn; omega)
        rw [Lib.count_hit (by simp) hi, hd, spC_word k a b h, List.length_cons, ih]
        omega
theorem split_any (k : UInt8) (a : Bs) (ha : a.length ≤ 4000000) {w : World} (hm : Laid w) :
    Calls Tryz.prog 51 #[.string (BT a), .string ⟨#[k]⟩] w fun e w' => ∃ v, e = .returned v ∧ StrSl w' v (spC k a) ∧ (∃ B n c, v = .slice (some ⟨B, 0, none⟩) n c) ∧ Turn Nn w w' := by
  obtain ⟨m, hm⟩ := hm.mx
  refine (Tryz.strings_Split (BT a) ⟨#[k]⟩ m w (by show a.length < _; omega) hm (by show 1 ≤ 1; omega)).mono ?_
  rintro e w' ⟨rfl, rfl⟩
  have hd : (Lib.splitB ⟨#[k]⟩ 0 (Lib.countB (BT a) ⟨#[k]⟩) (BT a)).map (·.data.toList) = spC k a := by
    rw [Lib.splitB_data]
    exact split_spC k _ a (Nat.le_refl _)
  obtain ⟨L, hL⟩ : ∃ L, Lib.splitB ⟨#[k]⟩ 0 (Lib.countB (BT a) ⟨#[k]⟩) (BT a) = L := ⟨_, rfl⟩
  rw [hL] at hd ⊢
  have hlen : Lib.countB (BT a) ⟨#[k]⟩ + 1 = (spC k a).length := (spC_count k _ a (Nat.le_refl _)).symm
  refine ⟨_, rfl, .inr ⟨w.heap.size, 0, _, by rw [hlen], Nat.le_of_eq hlen.symm, fun i hi => ?_⟩, ⟨_, _, _, rfl⟩, (Turn.refl _ _).alloc _⟩
  rw [cell_blk (World.alloc_heap_new w _), Nat.zero_add]
  have hl2 : L.length = (spC k a).length := by rw [← hd, List.length_map]
  have hL3 := congrArg (fun l => l[i]?) hd
  simp only [List.getElem?_map] at hL3
  rw [List.getElem?_eq_getElem (by omega : i < L.length)] at hL3
  simp only [Option.map_some] at hL3
  rw [← hL3]
  simp only [Option.getD_some, List.getElem?_toArray, List.getElem?_map, List.getElem?_eq_getElem (by omega : i < L.length), Option.map_some]
/-- A value reads as these numbers. -/
def IntSl (w : World) (v : Value) (L : List Int) : Prop :=
  ∃ b o cap, v = .slice (some ⟨b, o, none⟩) L.length cap ∧ L.length ≤ cap ∧ ∀ i, i < L.length → w.cell? ⟨b, o + i, none⟩ = some (.int .i64 (L[i]?.getD 0))
theorem IntSl.turn {w w' : World} {v : Value} {L : List Int} (h : IntSl w v L) (t : Turn Nn w w') : IntSl w' v L := by
  obtain ⟨b, o, cap, h1, h2, h3⟩ := h
  exact ⟨b, o, cap, h1, h2, fun i hi => cell_turn t (h3 i hi)⟩
/-- Numbers, or none. -/
def IntsOr (w : World) (v : Value) (x : Option (List Int)) : Prop := match x with
  | some L => IntSl w v L
  | none => v = .slice none 0 0
theorem other2_any {l : Bs} (hl : l.length ≤ 4000000) (w : World) : Calls Tryz.prog 57 #[.string (BT l)] w fun e w' => e = .returned (.bool (!numB l)) ∧ Turn Nn w w' := by
  have HN := Lib.hid (number_any hl w)
  obtain ⟨x, hx⟩ : ∃ x, numB l = x := ⟨_, rfl⟩
  rw [hx] at HN ⊢
  clear hx
  go_enter Tryz.func57, Tryz.ntmps57
  go_wp2_with fail
  refine HN.out.mono ?_
  rintro e w2 ⟨rfl, t⟩
  have HT := Lib.hid t
  clear t
  go_wp2_with fail
  go_ret
  exact ⟨rfl, HT.out⟩
set_option maxRecDepth 100000 in
set_option maxHeartbeats 8000000 in
theorem indexF_any {v : Value} {L : List Bs} {w : World} (hv : StrSl w v L) (hs : ∃ B n c, v = .slice (some ⟨B, 0, none⟩) n c) (hn : L.length ≤ 4000001) (hw : ∀ i : Nat, List.length (L[i]?.getD []) ≤ 4000000) :
    Calls Tryz.prog 86 #[v, .func (.func 57) #[] #[]] w fun e w' => ∃ z : Int, e = .returned (.int .i64 z) ∧ decide (0 ≤ z) = !(L.all numB) ∧ Turn Nn w w' := by
  rcases hv with ⟨rfl, pa, cap, rfl⟩ | ⟨b, o, cap, rfl, hcap, hc⟩
  · go_enter Tryz.func86, Tryz.ntmps86
    go_wp2_with fail
    go_loop [8] (fun i => i = .int .i64 0) (fun _ => 0)
    case atStart => rfl
    case round =>
      subst hrel
      go_wp2
      go_ret
      exact ⟨-1, rfl, by simp, Turn.refl _ _⟩
  · obtain ⟨M, hM⟩ : ∃ M, L.length = M := ⟨_, rfl⟩
    have HC := Lib.hid hc
    have HM := Lib.hid hM
    have HW := Lib.hid hw
    rw [hM] at hn hcap
    rw [hM]
    clear hc hM hs hw
    go_enter Tryz.func86, Tryz.ntmps86
    go_wp2_with fail
    go_loopw [5, 8] (fun _ i wr => ∃ k : Nat, k ≤ M ∧ i = .int .i64 k ∧ (L.take k).all numB = true ∧ Turn Nn w wr) (fun _ i _ => M - (intOf i).toNat)
    case atStart => exact ⟨0, by omega, rfl, rfl, Turn.refl _ _⟩
    case round =>
      obtain ⟨k, hk, rfl, hb, ht⟩ := hrel
      have HT := Lib.hid ht
      by_cases hlt : k < M
      · have hkt : k < L.length := by rw [HM.out]; exact hlt
        have hcell := cell_turn ht (HC.out k hkt)
        have HNX := Lib.hid (all_step hb hkt)
        have HST := Lib.hid (fun h => all_stop (L := L) (k := k) hkt h)
        have HCc := Lib.hid (other2_any (l := L[k]?.getD []) (HW.out k) wr)
        unfold BT at HCc
        obtain ⟨T, hT⟩ : ∃ T : ByteArray, ⟨(L[k]?.getD []).toArray⟩ = T := ⟨_, rfl⟩
        obtain ⟨y, hy⟩ : ∃ y, numB (L[k]?.getD []) = y := ⟨_, rfl⟩
        rw [hT] at hcell HCc
        rw [hy] at HCc HNX HST
        clear hT hb hy ht hkt
        cases y with
        | false =>
          go_wp2_with fail
          refine HCc.out.mono ?_
          rintro e w2 ⟨rfl, t⟩
          have HT2 := Lib.hid (HT.out.trans t)
          clear t
          go_wp2_with fail
          go_ret
          exact ⟨_, rfl, by rw [HST.out trivial]; exact decide_eq_true (by omega), HT2.out⟩
        | true =>
          go_wp2_with fail
          refine HCc.out.mono ?_
          rintro e w2 ⟨rfl, t⟩
          have HT2 := Lib.hid (HT.out.trans t)
          clear t
          go_wp2_with fail
          go_roundw
          case rel => exact ⟨k + 1, by omega, by go_num, HNX.out, HT2.out⟩
          case measure => simp [intOf]; omega
      · have hkl : L.take k = L := List.take_of_length_le (by rw [HM.out]; omega)
        rw [hkl] at hb
        have HB := Lib.hid hb
        clear hb hkl ht
        go_wp2_with fail
        go_ret
        exact ⟨-1, rfl, by rw [HB.out]; rfl, HT.out⟩
theorem containsF_any {v : Value} {L : List Bs} {w : World} (hv : StrSl w v L) (hs : ∃ B n c, v = .slice (some ⟨B, 0, none⟩) n c) (hn : L.length ≤ 4000001) (hw : ∀ i : Nat, List.length (L[i]?.getD []) ≤ 4000000) :
    Calls Tryz.prog 59 #[v, .func (.func 57) #[] #[]] w fun e w' => e = .returned (.bool (!(L.all numB))) ∧ Turn Nn w w' := by
  have HI := Lib.hid (indexF_any hv hs hn hw)
  obtain ⟨B, n, c, rfl⟩ := hs
  obtain ⟨y, hy⟩ : ∃ y, (!(L.all numB)) = y := ⟨_, rfl⟩
  rw [hy] at HI ⊢
  clear hv hn hw hy
  go_enter Tryz.func59, Tryz.ntmps59
  go_wp2_with fail
  refine HI.out.mono ?_
  rintro e w2 ⟨z, rfl, hz, t⟩
  have HT := Lib.hid t
  have HZ := Lib.hid hz
  clear t hz
  go_wp2_with fail
  go_ret
  exact ⟨by rw [HZ.out]; rfl, HT.out⟩
end
section
open Go.RowKit Go.Shelf

theorem partsL_all (l : Bs) : (partsL l).isSome = (spC 46 l).all numB := numsL_all _
set_option maxRecDepth 100000 in
theorem make_ints (w : World) (n : Nat) (hn : n ≤ 8000000) : (Instr.makeSlice 54 (.int .i64 n) (.int .i64 n)).run Tryz.prog w = .ok (.slice (some ⟨w.heap.size, 0, none⟩) n n) (w.alloc (.cells (madeCells #[.int .i64 0] n) 3)) := by
  obtain ⟨i, hi, hz, hs, hb⟩ : ∃ i, Tryz.prog.info? 3 = some i ∧ i.zero = some (.int .i64 0) ∧ i.size = 1 ∧ i.bytes = 8 := ⟨_, rfl, rfl, rfl, rfl⟩
  have h := run_makeSlice (P := Tryz.prog) w 54 3 i _ rfl hi hz .i64 .i64 n n (by omega) (by omega) (by rw [hs]; omega) (by rw [hb]; omega) (by omega)
  rw [hs, Int.toNat_natCast, Nat.mul_one] at h
  exact h
/-- Words as numbers, one by one. -/
def valN (x : Bs) : Nat := (numL x).getD 0
theorem numsL_val : ∀ {L : List Bs} {N : List Nat}, numsL L = some N → N = L.map valN
  | [], N, h => by cases h; rfl
  | x :: L, N, h => by
    unfold numsL at h
    cases hx : numL x with
    | none => rw [hx] at h; cases h
    | some n =>
      rw [hx] at h
      obtain ⟨r, hr, rfl⟩ := Option.map_eq_some_iff.1 h
      rw [List.map_cons, ← numsL_val hr]
      unfold valN
      rw [hx]; rfl
theorem numB_val {x : Bs} (h : numB x = true) : numL x = some (valN x) := by
  unfold numB at h
  unfold valN
  cases hx : numL x with
  | none => rw [hx] at h; cases h
  | some n => rfl
theorem atoi_num {x : Bs} {n : Nat} (h : numL x = some n) : Lib.atoiAll x = .ok (n : Int) := by
  obtain ⟨rfl, hn⟩ := numL_some.1 h
  exact atoi_decDigits n (by omega)
theorem atoi_any {x : Bs} {n : Nat} (h : numL x = some n) (w : World) : Calls Tryz.prog 60 #[.string (BT x)] w fun e w' => e = .returned (.tuple #[.int .i64 (n : Int), .nilIface]) ∧ Turn Nn w w' := by
  have hl : x.length ≤ 9 := by
    have := (numL_some.1 h)
    rw [this.1, Lib.decDigits_length]
    exact nDigits_of_lt this.2
  have h1 : Lib.atoiAll (BT x).data.toList = .ok (n : Int) := by
    have : (BT x).data.toList = x := by unfold BT; simp
    rw [this]; exact atoi_num h
  refine (Tryz.strconv_Atoi_ok (BT x) (by rw [BT_size]; omega) n h1 w).mono ?_
  rintro e w' ⟨rfl, hw⟩
  refine ⟨rfl, ?_⟩
  rcases hw with rfl | ⟨t, rfl⟩
  · exact Turn.refl _ _
  · exact Turn.of_below (Lib.bytesWorld_below _ _ _)
/-- A row of numbers that is being filled. -/
def RowI (w : World) (B : Nat) (D : List Int) (M : Nat) : Prop := ∃ c : Array Value, w.heap[B]? = some (.cells c 3) ∧ c.size = M ∧ ∀ i, i < D.length → c[i]? = some (.int .i64 (D[i]?.getD 0))
theorem RowI.new {w : World} {M : Nat} : RowI (w.alloc (.cells (madeCells #[.int .i64 0] M) 3)) w.heap.size [] M :=
  ⟨_, World.alloc_heap_new w _, by rw [size_madeCells], fun i hi => by simp at hi⟩
theorem RowI.turn {w w' : World} {B : Nat} {D : List Int} {M : Nat} (h : RowI w B D M) (t : Turn Nn w w') : RowI w' B D M := by
  obtain ⟨c, h1, h2, h3⟩ := h
  exact ⟨c, (t.block B (heap_lt h1) (fun h => h)).trans h1, h2, h3⟩
theorem RowI.put {w : World} {B : Nat} {D : List Int} {M : Nat} (h : RowI w B D M) (hD : D.length < M) (z : Int) : RowI (w.setCell ⟨B, D.length, none⟩ (.int .i64 z)) B (D ++ [z]) M := by
  obtain ⟨c, h1, h2, h3⟩ := h
  refine ⟨_, heap_setCell_at h1 _ _, by simpa using h2, fun i hi => ?_⟩
  rw [Array.getElem?_setIfInBounds]
  by_cases e : D.length = i
  · rw [if_pos e, if_pos (by omega)]
    subst e
    simp
  · rw [if_neg e]
    have hi' : i < D.length := by simp at hi; omega
    rw [h3 i hi', List.getElem?_append_left hi']
theorem RowI.sl {w : World} {B : Nat} {D : List Int} {M : Nat} (h : RowI w B D M) (hD : D.length = M) : IntSl w (.slice (some ⟨B, 0, none⟩) M M) D := by
  obtain ⟨c, h1, h2, h3⟩ := h
  refine ⟨B, 0, M, by rw [hD], by omega, fun i hi => ?_⟩
  rw [cell_blk h1, Nat.zero_add]
  exact h3 i hi
theorem RowI.cell {w : World} {B : Nat} {D : List Int} {M : Nat} (h : RowI w B D M) {k : Nat} (hk : k < M) : ∃ v, w.cell? ⟨B, k, none⟩ = some v := by
  obtain ⟨c, h1, h2, h3⟩ := h
  exact ⟨c[k]'(by omega), by rw [cell_blk h1]; simp [h2, hk]⟩
theorem RowI.free {w : World} {B : Nat} {D : List Int} {M : Nat} (h : RowI w B D M) (k : Nat) : w.frozen? ⟨B, k, none⟩ = false := by
  obtain ⟨c, h1, h2, h3⟩ := h
  exact frozen_blk h1
set_option maxRecDepth 100000 in
set_option maxHeartbeats 8000000 in
theorem parts_any {l : Bs} (hl : l.length ≤ 4000000) {w : World} (hw : Laid w) :
    Calls Tryz.prog 29 #[.string (BT l)] w fun e w' => ∃ v, e = .returned v ∧ IntsOr w' v ((partsL l).map (·.map Int.ofNat)) ∧ Turn Nn w w' := by
  have HS := Lib.hid (split_any 46 l hl hw)
  obtain ⟨L, hL⟩ : ∃ L, spC 46 l = L := ⟨_, rfl⟩
  have hLn := spC_length 46 l
  have hLw := spC_getD_le 46 l
  have hne := spC_ne 46 l
  have hpa := partsL_all l
  have hpn : partsL l = numsL L := by rw [← hL]; rfl
  rw [hL] at HS hLn hLw hne hpa
  have HPN := Lib.hid hpn
  have HPA := Lib.hid hpa
  have HW := Lib.hid (fun i => Nat.le_trans (hLw i) hl)
  obtain ⟨M, hM⟩ : ∃ M, L.length = M := ⟨_, rfl⟩
  have HM := Lib.hid hM
  have hMl : M ≤ 4000001 := by omega
  have hM0 : 1 ≤ M := by
    have := List.length_pos_iff.2 hne
    omega
  clear hLw hL hLn hM hl hne hpa hpn hw
  go_enter Tryz.func29, Tryz.ntmps29
  go_wp2_with fail
  refine HS.out.mono ?_
  rintro e w1 ⟨v, rfl, hstr, ⟨B0, n0, c0, rfl⟩, t1⟩
  have T1 := Lib.hid t1
  have HST := Lib.hid hstr
  clear t1 hstr HS
  go_wp2_with fail
  refine (containsF_any HST.out ⟨_, _, _, rfl⟩ (by rw [HM.out]; exact hMl) HW.out).mono ?_
  rintro e w2 ⟨rfl, t2⟩
  have T2 := Lib.hid (T1.out.trans t2)
  have HST2 := Lib.hid (HST.out.turn t2)
  clear t2
  obtain ⟨y, hy⟩ : ∃ y, L.all numB = y := ⟨_, rfl⟩
  rw [hy] at HPA
  have HY := Lib.hid hy
  rw [hy]
  clear hy
  cases y with
  | false =>
    go_wp2_with fail
    go_ret
    refine ⟨_, rfl, ?_, T2.out⟩
    have hn : partsL l = none := by
      have := HPA.out
      cases hp : partsL l with
      | none => rfl
      | some N => rw [hp] at this; cases this
    rw [hn]
    rfl
  | true =>
    have hst := HST2.out
    rcases hst with ⟨h0, _⟩ | ⟨b, o, cap, he, hcap, hc⟩
    · have := HM.out; rw [h0] at this; simp at this; omega
    cases he
    rw [HM.out] at hc hcap ⊢
    have HC := Lib.hid hc
    clear hc HST HST2
    have hmk := make_ints w2 M (by omega)
    obtain ⟨w3, hW⟩ : ∃ w3, w2.alloc (.cells (madeCells #[.int .i64 0] M) 3) = w3 := ⟨_, rfl⟩
    have hr := RowI.new (w := w2) (M := M)
    rw [hW] at hr hmk
    have t3 : Turn Nn w2 w3 := by rw [← hW]; exact (Turn.refl _ _).alloc _
    have HR := Lib.hid hr
    have T3 := Lib.hid (T2.out.trans t3)
    have HC3 : Hid (∀ i, i < M → w3.cell? ⟨B0, i, none⟩ = some (.string ⟨(L[i]?.getD []).toArray⟩)) := Lib.hid (fun i hi => by have := cell_turn t3 (HC.out i hi); rw [Nat.zero_add] at this; exact this)
    have hB : w.heap.size ≤ w2.heap.size := T2.out.size
    have HB1 := Lib.hid (show B0 < w3.heap.size from World.block_lt_of_cell? _ _ (HC3.out 0 (by omega)))
    have HB2 := Lib.hid (show B0 < w2.heap.size from World.block_lt_of_cell? _ _ (HC.out 0 (by omega)))
    obtain ⟨B, hBB⟩ : ∃ B, w2.heap.size = B := ⟨_, rfl⟩
    rw [hBB] at HR hB hmk HB2
    clear hW hr t3 hBB HC
    go_wp2_with fail
    clear hmk
    go_loopw [6, 7, 18] (fun _ _ i wr => ∃ k : Nat, k ≤ M ∧ i = .int .i64 k ∧ RowI wr B ((L.take k).map fun x => (valN x : Int)) M ∧ Turn Nn w wr ∧ (∀ i, i < M → wr.cell? ⟨B0, i, none⟩ = some (.string ⟨(L[i]?.getD []).toArray⟩))) (fun _ _ i _ => M - (intOf i).toNat)
    case atStart => exact ⟨0, by omega, rfl, HR.out, T3.out, HC3.out⟩
    case round =>
      obtain ⟨k, hk, rfl, hR, ht, hC⟩ := hrel
      have HR1 := Lib.hid hR
      have HT := Lib.hid ht
      have HC := Lib.hid hC
      clear hR ht hC
      by_cases hlt : k < M
      · have hkt : k < L.length := by rw [HM.out]; exact hlt
        have hcell := HC.out k hlt
        have hnum : numB (L[k]?.getD []) = true := by
          have e : L[k]?.getD [] = L[k] := by simp [hkt]
          rw [e]
          exact List.all_eq_true.1 HY.out _ (List.getElem_mem hkt)
        have HA := Lib.hid (atoi_any (numB_val hnum) wr)
        have HTK : Hid ((L.take (k + 1)).map (fun x => (valN x : Int)) = (L.take k).map (fun x => (valN x : Int)) ++ [(valN (L[k]?.getD []) : Int)]) := Lib.hid (by
          rw [List.take_succ_eq_append_getElem hkt, List.map_append]
          simp [hkt])
        have HLEN : Hid (((L.take k).map (fun x => (valN x : Int))).length = k) := Lib.hid (by rw [List.length_map, List.length_take]; omega)
        unfold BT at HA
        obtain ⟨T, hT⟩ : ∃ T : ByteArray, ⟨(L[k]?.getD []).toArray⟩ = T := ⟨_, rfl⟩
        obtain ⟨z, hz⟩ : ∃ z : Nat, valN (L[k]?.getD []) = z := ⟨_, rfl⟩
        rw [hT] at hcell HA
        rw [hz] at HA HTK
        clear hT hz hnum hkt
        go_wp2_with fail
        refine HA.out.mono ?_
        rintro e w4 ⟨rfl, t4⟩
        have HR4 := Lib.hid (HR1.out.turn t4)
        have T4 := Lib.hid (HT.out.trans t4)
        have HC4 := Lib.hid (fun i hi => cell_turn t4 (HC.out i hi))
        obtain ⟨v0, hv0⟩ := HR4.out.cell hlt
        have hz0 := HR4.out.free k
        clear t4 hcell HR1 HT HC
        go_wp2_with fail
        go_roundw
        case rel =>
          refine ⟨k + 1, by omega, by go_num, ?_, T4.out.setCell (p := ⟨B, k, none⟩) (.inr hB) _, fun i hi => ?_⟩
          · have := HR4.out.put (by rw [HLEN.out]; exact hlt) (z : Int)
            rw [HLEN.out, ← HTK.out] at this
            exact this
          · rw [World.cell?_setCell_other _ _ _ _ (by intro e; have := congrArg Addr.block e; have h2 := HB2.out; simp only at this; omega)]
            exact HC4.out i hi
        case measure => simp [intOf]; omega
      · have hkl : L.take k = L := List.take_of_length_le (by rw [HM.out]; omega)
        rw [hkl] at HR1
        clear hkl
        go_wp2_with fail
        go_ret
        refine ⟨_, rfl, ?_, HT.out⟩
        have h1 := HR1.out.sl (by rw [List.length_map]; exact HM.out)
        have h2 := HPA.out
        cases hp : partsL l with
        | none => rw [hp] at h2; cases h2
        | some N =>
          have h3 := numsL_val (HPN.out.symm.trans hp)
          show IntSl wr _ (N.map Int.ofNat)
          rw [h3, List.map_map]
          exact h1
theorem notnil_or {w : World} {v : Value} {x : Option (List Int)} (h : IntsOr w v x) : (∃ b o n c, v = .slice (some ⟨b, o, none⟩) n c ∧ x.isSome = true) ∨ (v = .slice none 0 0 ∧ x.isSome = false) := by
  cases x with
  | none => exact .inr ⟨h, rfl⟩
  | some L =>
    obtain ⟨b, o, cap, h1, _⟩ := h
    exact .inl ⟨b, o, _, cap, h1, rfl⟩
theorem actor_any {l : Bs} (hl : l.length ≤ 4000000) {w : World} (hw : Laid w) :
    Calls Tryz.prog 12 #[.string (BT l)] w fun e w' => e = .returned (.bool (actorL l)) ∧ Turn Nn w w' := by
  have HP := Lib.hid (parts_any hl hw)
  have ha : actorL l = ((partsL l).map (·.map Int.ofNat)).isSome := by unfold actorL; cases partsL l <;> rfl
  rw [ha]
  obtain ⟨x, hx⟩ : ∃ x, (partsL l).map (·.map Int.ofNat) = x := ⟨_, rfl⟩
  rw [hx] at HP ⊢
  obtain ⟨z, hz⟩ : ∃ z, x.isSome = z := ⟨_, rfl⟩
  rw [hz]
  have HZ := Lib.hid hz
  clear hx ha hw hz
  go_enter Tryz.func12, Tryz.ntmps12
  go_wp2_with fail
  refine HP.out.mono ?_
  rintro e w2 ⟨v, rfl, ho, t⟩
  have HT := Lib.hid t
  clear t
  rcases notnil_or ho with ⟨b, o, n, c, rfl, h⟩ | ⟨rfl, h⟩
  · obtain rfl : z = true := HZ.out.symm.trans h
    clear ho h
    go_wp2_with fail
    go_ret
    exact ⟨rfl, HT.out⟩
  · obtain rfl : z = false := HZ.out.symm.trans h
    clear ho h
    go_wp2_with fail
    go_ret
    exact ⟨rfl, HT.out⟩
end
end Go.Proofs.YtpbjblbeepbklaaGreatDoor
