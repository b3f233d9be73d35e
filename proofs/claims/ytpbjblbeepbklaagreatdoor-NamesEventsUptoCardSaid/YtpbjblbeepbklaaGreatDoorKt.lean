/- The program's walks: NamesOrder whole. -/
import Derived.Test.YtpbjblbeepbklaaGreatDoorKr
import Derived.Test.YtpbjblbeepbklaaGreatDoorKq
namespace Go.Proofs.YtpbjblbeepbklaaGreatDoor
set_option linter.unusedSimpArgs false
set_option linter.unusedVariables false
open Go.RowKit Go.Shelf Go.Lib

theorem beq_dec (a b : Bs) : ((BT a).toList == (BT b).toList) = decide (a = b) := by
  rw [BT_toList, BT_toList, Bool.eq_iff_iff, beq_iff_eq, decide_eq_true_eq]
theorem gives_less {w : World} (hw : Laid w) {a b : Bs} (ha : a.length ≤ 4000000) (hb : b.length ≤ 4000000) {z : Bool} (h : lessL a b = z) : Gives w 18 #[.string (BT a), .string (BT b)] (.bool z) := fun u t => by
  have := less_any ha hb (hw.turn t)
  rw [h] at this
  exact this
theorem gives_works {w : World} (hw : Laid w) : Gives w 20 #[] (.bool true) := fun u t => works_any (hw.turn t)
theorem gives_actor {w : World} (hw : Laid w) {a : Bs} (ha : a.length ≤ 4000000) {z : Bool} (h : actorL a = z) : Gives w 12 #[.string (BT a)] (.bool z) := fun u t => by
  have := actor_any ha (hw.turn t)
  rw [h] at this
  exact this
theorem gives_chan {w : World} (hw : Laid w) {a : Bs} (ha : a.length ≤ 4000000) {z : Bool} (h : chanL a = z) : Gives w 14 #[.string (BT a)] (.bool z) := fun u t => by
  have := chan_any ha (hw.turn t)
  rw [h] at this
  exact this
theorem gives_parent {w : World} (hw : Laid w) {a : Bs} (ha : a.length ≤ 4000000) : Gives w 16 #[.string (BT a)] (.string (BT (parentL a))) := fun u t => parent_any ha (hw.turn t)
theorem gives_name0 {w : World} {v : Value} {l : List Nat} (h : ByteSl w v l) : Gives w 9 #[v, .int .i64 0] (.string (BT (name0 l))) := fun u t => name01_any (k := 0) (.inl rfl) (h.turn t)
theorem gives_name1 {w : World} {v : Value} {l : List Nat} (h : ByteSl w v l) : Gives w 9 #[v, .int .i64 1] (.string (BT (name1 l))) := fun u t => name01_any (k := 1) (.inr rfl) (h.turn t)
theorem parent_len (a : Bs) : (parentL a).length ≤ a.length := by
  unfold parentL
  repeat' split
  all_goals first
    | (rename_i h; have e := congrArg List.length (lastC_some.1 h).1; simp at e; omega)
    | simp

theorem order_any {v0 v1 v2 : Value} {l0 l1 l2 : List Nat} {kd : Bool} {w : World} (h0 : ByteSl w v0 l0) (h1 : ByteSl w v1 l1) (h2 : ByteSl w v2 l2) (hw : Laid w) :
    Calls Tryz.prog 7 #[.agg #[v0, v1, v2], .bool kd] w fun e w' => e = .returned (.bool true) ∧ Turn Nn w w' := by
  obtain ⟨x, hx⟩ := name_key kd h0.1
  obtain ⟨y, hy⟩ := name_key kd h1.1
  obtain ⟨z, hz⟩ := name_key kd h2.1
  obtain ⟨f1, f2, f3⟩ := order_law hx hy hz
  cases kd with
  | true =>
    simp only [if_true] at hx hy hz f1 f2 f3
    have n0 := name1_len h0.1
    have n1 := name1_len h1.1
    have n2 := name1_len h2.1
    have hc : chanL (name1 l0) = true := by
      unfold anyKey at hx
      rw [if_pos rfl] at hx
      unfold chanL; rw [hx]; rfl
    have np := parent_len (name1 l0)
    exact order_walk1 (gives_works hw) (gives_name1 h0) (gives_name1 h1) (gives_name1 h2) (gives_less hw (by omega) (by omega) f1) (gives_less hw (by omega) (by omega) rfl) (gives_less hw (by omega) (by omega) rfl)
      (gives_less hw (by omega) (by omega) rfl) (gives_less hw (by omega) (by omega) rfl) (beq_dec _ _) (by rw [← f2, decide_not]) (fun h => by have e := of_decide_eq_true h; rw [e] at f1 ⊢; exact f1) f3
      (gives_parent hw (by omega)) (gives_chan hw (by omega) hc) (gives_actor hw (by omega) (chan_no_actor hc)) (gives_less hw (by omega) (by omega) (chan_parent hc))
  | false =>
    simp only [Bool.false_eq_true, if_false] at hx hy hz f1 f2 f3
    have n0 := name0_len h0.1
    have n1 := name0_len h1.1
    have n2 := name0_len h2.1
    have hc : actorL (name0 l0) = true := by
      unfold actorL; rw [name0_parts h0.1]; rfl
    have np := parent_len (name0 l0)
    refine order_walk0 (gives_works hw) (gives_name0 h0) (gives_name0 h1) (gives_name0 h2) (gives_less hw (by omega) (by omega) f1) (gives_less hw (by omega) (by omega) rfl) (gives_less hw (by omega) (by omega) rfl)
      (gives_less hw (by omega) (by omega) rfl) (gives_less hw (by omega) (by omega) rfl) (beq_dec _ _) (by rw [← f2, decide_not]) (fun h => by have e := of_decide_eq_true h; rw [e] at f1 ⊢; exact f1) f3
      (gives_parent hw (by omega)) (gives_chan hw (by omega) (actor_no_chan hc)) (gives_actor hw (by omega) hc) ?_
    by_cases he : parentL (name0 l0) = []
    · left; rw [he]; rfl
    · right
      rcases parent_law hc with h | ⟨ha, hb⟩
      · exact absurd h he
      · exact ⟨by rw [BT_toList]; simpa using he, gives_less hw (by omega) (by omega) ha, gives_actor hw (by omega) hb⟩
end Go.Proofs.YtpbjblbeepbklaaGreatDoor
