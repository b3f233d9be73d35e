/- The numbers of a line's words. -/
import Derived.Test.YtjnllclpdllceaaGreatDoorSg
import Derived.Maps.AppendAt
namespace Go.Proofs.YtjnllclpdllceaaGreatDoor
set_option linter.unusedSimpArgs false
set_option linter.unusedVariables false
open Go.RowKit Go.Shelf

theorem cell_blk {w : World} {b o : Nat} {cs : Array Value} {t : TypeId} {d : Nat × Nat} (h : w.heap[b]? = some (.cells cs t d)) : w.cell? ⟨b, o, none⟩ = cs[o]? := by
  unfold World.cell?
  simp [h]

/-- The value reads as these words. -/
def StrSl (w : World) (v : Value) (L : List Bs) : Prop :=
  (L = [] ∧ ∃ pa cap, v = .slice pa 0 cap) ∨ (∃ b o cap, v = .slice (some ⟨b, o, none⟩) L.length cap ∧ L.length ≤ cap ∧ ∀ i, i < L.length → w.cell? ⟨b, o + i, none⟩ = some (.string ⟨(L[i]?.getD []).toArray⟩))

theorem StrSl.turn {w w' : World} {v : Value} {L : List Bs} (h : StrSl w v L) (t : Turn Nn w w') : StrSl w' v L := by
  rcases h with h | ⟨b, o, cap, h1, h2, h3⟩
  · exact .inl h
  · exact .inr ⟨b, o, cap, h1, h2, fun i hi => cell_turn t (h3 i hi)⟩

theorem Turn.grown {w w' : World} {a : World} {row : Option Nat} (h : Turn Nn a w) (g : w.grownBy w' row) (hs : ∀ k, row = some k → a.heap.size ≤ k) : Turn Nn a w' :=
  ⟨g.os.trans h.os, g.tape.trans h.tape, g.output.trans h.output, Nat.le_trans h.size g.size, fun k hk hn => (g.block k (Nat.lt_of_lt_of_le hk h.size) (fun e => by have := hs k e.symm; omega)).trans (h.block k hk hn)⟩

def natV (n : Nat) : Value := .int .i64 n

theorem numsL_append : ∀ (a b : List Bs), numsL (a ++ b) = (numsL a).bind fun x => (numsL b).map (x ++ ·)
  | [], b => by simp [numsL]
  | l :: r, b => by
    rw [List.cons_append, numsL, numsL, numsL_append r b]
    cases numL l with
    | none => rfl
    | some n =>
      cases numsL r with
      | none => rfl
      | some x => cases numsL b <;> rfl

theorem numsL_step {L : List Bs} {k : Nat} {N : List Nat} (h : numsL (L.take k) = some N) (hk : k < L.length) {n : Nat} (hn : numL (L[k]?.getD []) = some n) : numsL (L.take (k + 1)) = some (N ++ [n]) := by
  have e : L[k]?.getD [] = L[k] := by simp [hk]
  rw [e] at hn
  rw [List.take_succ_eq_append_getElem hk, numsL_append, h]
  simp [numsL, hn]

theorem numsL_stop {L : List Bs} {k : Nat} {N : List Nat} (h : numsL (L.take k) = some N) (hk : k < L.length) (hn : numL (L[k]?.getD []) = none) : numsL L = none := by
  have e : L[k]?.getD [] = L[k] := by simp [hk]
  rw [e] at hn
  have h2 : L = L.take k ++ (L[k] :: L.drop (k + 1)) := by simp
  rw [h2, numsL_append, h]
  simp [numsL, hn]

theorem number_some {l : Bs} {n : Nat} (h : numL l = some n) (hs : l.length ≤ 1000000) (w : World) (hl : Laid w) :
    Calls Tryz.prog 74 #[.string ⟨l.toArray⟩] w fun e w' => e = .returned (.tuple #[.int .i64 n, .bool true]) ∧ Turn Nn w w' := by
  refine (number_any ⟨l.toArray⟩ (by simp [ByteArray.size]; omega) w hl).mono ?_
  rintro e w' ⟨v, he, hv, ht⟩
  simp only at he hv
  rw [h] at he
  rw [hv n h] at he
  exact ⟨he, ht⟩

theorem number_none {l : Bs} (h : numL l = none) (hs : l.length ≤ 1000000) (w : World) (hl : Laid w) :
    Calls Tryz.prog 74 #[.string ⟨l.toArray⟩] w fun e w' => ∃ v : Int, e = .returned (.tuple #[.int .i64 v, .bool false]) ∧ Turn Nn w w' := by
  refine (number_any ⟨l.toArray⟩ (by simp [ByteArray.size]; omega) w hl).mono ?_
  rintro e w' ⟨v, he, hv, ht⟩
  simp only at he hv
  rw [h] at he
  exact ⟨v, he, ht⟩

theorem ownsRow_turn {w w' : World} {B : Nat} {e : TypeId} {sz : Nat} {v : Value} {n : Nat} {xs : List Value} (h : w.ownsRow B e sz v n xs) (t : Turn Nn w w') : w'.ownsRow B e sz v n xs := by
  refine ⟨h.1, ?_⟩
  rcases h.2 with hn | ⟨g, cap, cur, rfl, hb, hgg, rest⟩
  · exact .inl hn
  · exact .inr ⟨g, cap, cur, rfl, hb, (t.block g (heap_lt hgg) (fun h => h)).trans hgg, rest⟩

theorem infoI : (Tryz.prog.info? 3).map (fun i => (i.zero, i.size, i.bytes)) = some (some (.int .i64 0), 1, 8) := by kernel_rfl

def NumsPost (w : World) (L : List Bs) (e : Ending) (w' : World) : Prop :=
  (∃ v, e = .returned (.tuple #[v, .bool (numsL L).isSome]) ∧ (∀ N, numsL L = some N → w'.ownsRow w.heap.size 3 1 v N.length (N.map natV))) ∧ Turn Nn w w'

theorem NumsPost.ret {w : World} {L : List Bs} {v : Value} {w' : World} {N : List Nat} (h : numsL L = some N) (ho : w'.ownsRow w.heap.size 3 1 v N.length (N.map natV)) (ht : Turn Nn w w') :
    NumsPost w L (.returned (.tuple #[v, .bool true])) w' :=
  ⟨⟨v, by rw [h]; rfl, fun M hM => by rw [h] at hM; cases hM; exact ho⟩, ht⟩
theorem NumsPost.no {w : World} {L : List Bs} {v : Value} {w' : World} (h : numsL L = none) (ht : Turn Nn w w') :
    NumsPost w L (.returned (.tuple #[v, .bool false])) w' :=
  ⟨⟨v, by rw [h]; rfl, fun M hM => by rw [h] at hM; cases hM⟩, ht⟩

set_option maxHeartbeats 2000000 in
theorem numbers_any {v : Value} {L : List Bs} {w : World} (hv : StrSl w v L) (hL : L.length ≤ 1000000) (hs : ∀ i, i < L.length → (L[i]?.getD []).length ≤ 1000000) (hl : Laid w) :
    Calls Tryz.prog 54 #[v] w (NumsPost w L) := by
  rcases hv with ⟨rfl, pa, cap, rfl⟩ | ⟨b, o, cap, rfl, hcap, hc⟩
  · go_enter Tryz.func54, Tryz.ntmps54
    go_wp2_with fail
    go_loop [4, 11] (fun v i => v = .slice none 0 0 ∧ i = .int .i64 0) (fun _ _ => 0)
    case atStart => exact ⟨rfl, rfl⟩
    case round =>
      obtain ⟨rfl, rfl⟩ := hrel
      go_wp2
      go_ret2
      exact NumsPost.ret (N := []) rfl (World.ownsRow_nil w _ 3 1) (Turn.refl _ _)
  · obtain ⟨i0, hi, hz⟩ := Option.map_eq_some_iff.1 infoI
    simp only [Prod.mk.injEq] at hz
    obtain ⟨hz0, hz1, hz2⟩ := hz
    obtain ⟨M, hM⟩ : ∃ M, L.length = M := ⟨_, rfl⟩
    rw [hM] at hL hcap hs hc
    have HC := Lib.hid hc
    have HS := Lib.hid hs
    have HM := Lib.hid hM
    have HL := Lib.hid hl
    rw [hM]
    clear hc hs hM hl
    go_enter Tryz.func54, Tryz.ntmps54
    go_wp2_with fail
    go_loopw [4, 6, 7, 8, 11] (fun v _ _ _ i wr => ∃ (k : Nat) (N : List Nat), k ≤ M ∧ i = .int .i64 k ∧ numsL (L.take k) = some N ∧ N.length = k ∧ wr.ownsRow w.heap.size 3 1 v N.length (N.map natV) ∧ Turn Nn w wr) (fun _ _ _ _ i _ => M - (intOf i).toNat)
    case atStart => exact ⟨0, [], by omega, rfl, rfl, rfl, World.ownsRow_nil w _ 3 1, Turn.refl _ _⟩
    case round =>
      obtain ⟨k, N, hk, rfl, hN, hNk, hown, ht⟩ := hrel
      by_cases hlt : k < M
      · have hcell := cell_turn ht (HC.out k hlt)
        have hsk := HS.out k hlt
        cases hn : numL (L[k]?.getD []) with
        | none =>
          have hno := numsL_stop hN (by rw [HM.out]; exact hlt) hn
          have HCc := Lib.hid (number_none hn hsk wr (HL.out.turn ht))
          have HNO := Lib.hid hno
          have HT := Lib.hid ht
          obtain ⟨T, hT⟩ : ∃ T : ByteArray, ⟨(L[k]?.getD []).toArray⟩ = T := ⟨_, rfl⟩
          rw [hT] at hcell HCc
          clear hno hn hN hNk hown ht hsk hT HC HS HM HL
          go_wp2_with fail
          refine HCc.out.mono ?_
          rintro e w1 ⟨vv, rfl, ht1⟩
          have HT1 := Lib.hid ht1
          clear ht1
          go_wp2
          go_ret2
          exact NumsPost.no HNO.out (HT.out.trans HT1.out)
        | some n =>
          have hst := numsL_step hN (by rw [HM.out]; exact hlt) hn
          have HCc := Lib.hid (number_some hn hsk wr (HL.out.turn ht))
          have HST := Lib.hid hst
          have HT := Lib.hid ht
          have HOWN := Lib.hid hown
          have HNK := Lib.hid hNk
          obtain ⟨T, hT⟩ : ∃ T : ByteArray, ⟨(L[k]?.getD []).toArray⟩ = T := ⟨_, rfl⟩
          rw [hT] at hcell HCc
          clear hst hn hN hNk hown ht hsk hT HC HS HM HL
          go_wp2_with fail
          refine HCc.out.mono ?_
          rintro e w1 ⟨rfl, ht1⟩
          have hown1 := ownsRow_turn HOWN.out ht1
          have HT1 := Lib.hid (HT.out.trans ht1)
          have hsz := HT1.out.size
          clear ht1
          go_wp2_with (at_builtin; refine wpList_append_own _ rfl _ _ 104 rfl w.heap.size 3 i0 (.int .i64 0) 1 8 Tryz.underlying104 hi hz0 hz1 hz2 rfl (by decide) _ _ _ rfl (hown1.alloc _) ⟨w1.heap.size, 0, none⟩ 1 1 [.int .i64 n] rfl rfl ?c1 ?c2 ?c3 ?c4 ?c5 ?_)
          case c1 =>
            intro j u hj
            match j, hj with
            | 0, hj => simp at hj; subst hj; simp [Addr.add]
          case c2 => intro u hu; simp at hu; subst hu; rfl
          case c3 => have := HNK.out; unfold maxLen; omega
          case c4 => have := HNK.out; omega
          case c5 => simp; omega
          intro v' w2 hown' hgrow _
          have HT2 := Lib.hid ((HT1.out.alloc _).grown hgrow (fun q hq => (hown1.lt q hq).1))
          have HO2 := Lib.hid hown'
          clear hown' hgrow hown1 hsz
          go_wp2
          go_roundw
          case rel =>
            refine ⟨k + 1, N ++ [n], by omega, by go_num, HST.out, by have := HNK.out; simp; omega, ?_, HT2.out⟩
            have := HO2.out
            rw [List.length_append, List.map_append]
            exact this
          case measure => simp [intOf]; omega
      · have hkM : k = M := by omega
        subst hkM
        have hd : numsL L = some N := by rw [← hN, List.take_of_length_le (by rw [HM.out]; exact Nat.le_refl _)]
        have HD := Lib.hid hd
        have HT := Lib.hid ht
        have HOWN := Lib.hid hown
        clear hd hN hNk hown ht HC HS HM HL
        go_wp2
        go_ret2
        exact NumsPost.ret HD.out HOWN.out HT.out
end Go.Proofs.YtjnllclpdllceaaGreatDoor
