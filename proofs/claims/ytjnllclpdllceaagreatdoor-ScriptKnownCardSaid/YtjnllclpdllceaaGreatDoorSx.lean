/- The program's parser. -/
import Derived.Test.YtjnllclpdllceaaGreatDoorSw
import Derived.Test.YtjnllclpdllceaaGreatDoorHb
namespace Go.Proofs.YtjnllclpdllceaaGreatDoor
set_option linter.unusedSimpArgs false
set_option linter.unusedVariables false
open Go.RowKit Go.Shelf
attribute [local go_sem] Oper.semAt_some

def sZero : Array Value := #[.int .i64 0, .int .i64 0, .int .i64 0, .bool false, .string ⟨#[]⟩, .slice none 0 0]

/-- Between two rounds: how far it has come. -/
structure PAt (w : World) (r p q : Nat) (t0 t : Bs) (W : World) (n ph : Nat) (s : ScriptD) (v : Value) : Prop where
  go : parseGo t0 0 0 zeroS = parseGo t n ph s
  ok : SOk ph s
  zero : n = 0 → ph = 0
  pos : ph = 0 → n = 0
  len : n + t.length ≤ t0.length
  at_ : RAt W w.heap.size r ph s v
  far : ∀ k, v.ownBlock = some k → w.heap.size + 6 ≤ k
  b0 : W.heap[w.heap.size]? = some (.cells sZero 26)
  b1 : W.heap[w.heap.size + 1]? = some (.cells #[.nilIface] 46)
  bp : W.heap[p]? = some (.cells #[.pointer (some ⟨r, 0, none⟩)] 82)
  bq : W.heap[q]? = some (.cells #[.int .i64 n] 3)
  low : Below w.heap.size w W
  room : w.heap.size + 6 ≤ W.heap.size
  start : n = 0 → t = t0
def PInv (w : World) (r p q : Nat) (t0 t : Bs) (W : World) : Prop := ∃ n ph s v, PAt w r p q t0 t W n ph s v
/-- A round has returned. -/
def PErr (w : World) (t0 : Bs) (W : World) : Prop := ∃ (c : Int) (n f : Nat), parseGo t0 0 0 zeroS = .error (c, n) ∧ W.heap[w.heap.size]? = some (.cells sZero 26) ∧ W.heap[w.heap.size + 1]? = some (.cells #[.iface 93 (.pointer (some ⟨f, 0, none⟩))] 46) ∧ W.heap[f]? = some (.cells #[.int .i64 c, .int .i64 n] 54) ∧ w.heap.size + 6 ≤ f ∧ Below w.heap.size w W

theorem kept_cells {B : Nat} {W W' : World} {row : Option Nat} (hg : W.grownBy W' row) (hrow : ∀ r, row = some r → B ≤ r ∧ ∃ o : Obj, W.heap[r]? = some o ∧ o.isCells = false) (k : Nat) (o : Obj) (ho : W.heap[k]? = some o) (hc : o.isCells = true) : W'.heap[k]? = some o := by
  refine (hg.block k (heap_lt ho) (fun e => ?_)).trans ho
  obtain ⟨_, o2, ho2, hc2⟩ := hrow k e.symm
  rw [ho] at ho2; cases ho2
  rw [hc] at hc2; cases hc2

theorem PAt.move {w W W' : World} {r p q : Nat} {t0 t : Bs} {n ph : Nat} {s : ScriptD} {v : Value} (h : PAt w r p q t0 t W n ph s v) (key : ∀ k o, W.heap[k]? = some o → o.isCells = true → k = w.heap.size ∨ k = w.heap.size + 1 ∨ k = r ∨ k = p ∨ k = q ∨ v.ownBlock = some k → W'.heap[k]? = some o) (hlow : Below w.heap.size w W') (hsz : W.heap.size ≤ W'.heap.size) : PAt w r p q t0 t W' n ph s v := by
  refine ⟨h.go, h.ok, h.zero, h.pos, h.len, ⟨key _ _ h.at_.blk rfl (by simp), own_blk h.at_.own (fun k hk => ?_), h.at_.apart, h.at_.low⟩, h.far, key _ _ h.b0 rfl (by simp), key _ _ h.b1 rfl (by simp), key _ _ h.bp rfl (by simp), key _ _ h.bq rfl (by simp), hlow, by have := h.room; omega, h.start⟩
  rcases h.at_.own.2 with ⟨rfl, _⟩ | ⟨g, cap, cur, rfl, _, hgg, _⟩
  · cases hk
  · cases hk
    rw [key _ _ hgg rfl (by simp [Value.ownBlock]), hgg]

theorem PInv.own {w : World} {r p q : Nat} {t0 : Bs} {B : Nat} (hB : w.heap.size ≤ B) : OwnFrom B (PInv w r p q t0) := by
  rintro t W W' row ⟨n, ph, s, v, h⟩ hg hrow
  exact ⟨n, ph, s, v, h.move (fun k o ho hc _ => kept_cells hg hrow k o ho hc) (h.low.grown hg h.low.size (fun k hk => by have := (hrow k hk).1; omega)) hg.size⟩

theorem PErr.own {w : World} {t0 : Bs} {B : Nat} (hB : w.heap.size ≤ B) : OwnFrom B (fun (_ : Unit) W => PErr w t0 W) := by
  rintro _ W W' row ⟨c, n, f, h1, h2, h3, h4, h5, h6⟩ hg hrow
  exact ⟨c, n, f, h1, kept_cells hg hrow _ _ h2 rfl, kept_cells hg hrow _ _ h3 rfl, kept_cells hg hrow _ _ h4 rfl, h5, h6.grown hg h6.size (fun k hk => by have := (hrow k hk).1; omega)⟩

theorem PInv.box {w : World} {r p q x : Nat} {t0 : Bs} (hr : r = w.heap.size + 2) (hp : p = w.heap.size + 3) (hq : q = w.heap.size + 4) (hx : x = w.heap.size + 5) (t : Bs) (W W' : World) (h : PInv w r p q t0 t W) (hT : Turn (At1 x) W W') : PInv w r p q t0 t W' := by
  obtain ⟨n, ph, s, v, h⟩ := h
  refine ⟨n, ph, s, v, h.move (fun k o ho hc hk => (hT.block k (heap_lt ho) (fun e => ?_)).trans ho) (hT.under h.low (fun k hk => by cases hk; omega) h.low.size) hT.size⟩
  have e : k = x := e
  have hf := h.far k
  rcases hk with hk | hk | hk | hk | hk | hk
  all_goals first | omega | (have := hf hk; omega)

theorem keeps_of {S : Nat → Prop} {W W' : World} (t : Turn S W W') (hS : ∀ k o, S k → W.heap[k]? = some o → o.isCells = true) : KeepsOthers W W' :=
  ⟨t.size, fun k o hk hc => by
    by_cases hs : S k
    · have := hS k o hs hk; rw [this] at hc; cases hc
    · exact (t.block k (heap_lt hk) hs).trans hk⟩

def zero6 (w : World) (h : Nat) : World := (((((w.setCell ⟨h, 0, none⟩ (.int .i64 0)).setCell ⟨h, 1, none⟩ (.int .i64 0)).setCell ⟨h, 2, none⟩ (.int .i64 0)).setCell ⟨h, 3, none⟩ (.bool false)).setCell ⟨h, 4, none⟩ (.string ⟨#[]⟩)).setCell ⟨h, 5, none⟩ (.slice none 0 0)
theorem zero6_blk {w : World} {h : Nat} (hb : w.heap[h]? = some (.cells sZero 26)) : (zero6 w h).heap[h]? = some (.cells sZero 26) :=
  heap_setCell_at (heap_setCell_at (heap_setCell_at (heap_setCell_at (heap_setCell_at (heap_setCell_at hb 0 _) 1 _) 2 _) 3 _) 4 _) 5 _
theorem zero6_turn (w : World) (h : Nat) : Turn (At1 h) w (zero6 w h) :=
  ((((((Turn.refl (At1 h) w).setCell (p := ⟨h, 0, none⟩) (.inl rfl) _).setCell (p := ⟨h, 1, none⟩) (.inl rfl) _).setCell (p := ⟨h, 2, none⟩) (.inl rfl) _).setCell (p := ⟨h, 3, none⟩) (.inl rfl) _).setCell (p := ⟨h, 4, none⟩) (.inl rfl) _).setCell (p := ⟨h, 5, none⟩) (.inl rfl) _

theorem keeps_at1 {W W' : World} {k : Nat} {cs : Array Value} {ty : TypeId} (t : Turn (At1 k) W W') (hb : W.heap[k]? = some (.cells cs ty)) : KeepsOthers W W' :=
  keeps_of t (fun j o hj ho => by have hj : j = k := hj; subst hj; rw [hb] at ho; cases ho; rfl)
theorem keeps_nn {W W' : World} (t : Turn Nn W W') : KeepsOthers W W' := keeps_of t (fun _ _ h _ => h.elim)

theorem keeps_rs {W W' : World} {B r ph : Nat} {s : ScriptD} {v : Value} (h : RAt W B r ph s v) (t : Turn (RS r v) W W') : KeepsOthers W W' :=
  keeps_of t (fun k o hk ho => by
    rcases hk with hk | hk
    · have hk : k = r := hk
      subst hk
      rw [h.blk] at ho; cases ho; rfl
    · rcases h.own.2 with ⟨rfl, _⟩ | ⟨g, cap, cur, rfl, _, hg, _⟩
      · cases hk
      · cases hk
        rw [hg] at ho; cases ho; rfl)

theorem rs_low {w W : World} {r p q : Nat} {t0 t : Bs} {n ph : Nat} {s : ScriptD} {v : Value} (h : PAt w r p q t0 t W n ph s v) : ∀ k, RS r v k → w.heap.size ≤ k := by
  rintro k (hk | hk)
  · have := h.at_.low; omega
  · have := h.far k hk; omega

/-- What a round that goes on leaves. -/
theorem pnorm_end {w W W3 : World} {t0 t a b : Bs} {x n ph r p q : Nat} {s : ScriptD} {v v' : Value} {pp : Nat × ScriptD} (h : PAt w r p q t0 t W n ph s v) (hta : t = a ++ 10 :: b) (hgo : parseGo t0 0 0 zeroS = parseGo b (n + 1) pp.1 pp.2) (hx : stepS ph s (spW a) = .ok pp) (hat : RAt W3 w.heap.size r pp.1 pp.2 v') (hvb : v'.ownBlock = v.ownBlock ∨ ∃ k, v'.ownBlock = some k ∧ W.heap.size ≤ k) (T : Turn (RS r v) W W3)
    (er : r = w.heap.size + 2) (ep : p = w.heap.size + 3) (eq : q = w.heap.size + 4) (ex : x = w.heap.size + 5) (ac : Act) :
    linePost x (PInv w r p q t0) (PErr w t0) b W .normal ac (W3.setCell ⟨q, 0, none⟩ (.int .i64 ((n : Int) + 1))) := by
  have hfar : ∀ k, v'.ownBlock = some k → w.heap.size + 6 ≤ k := fun k hk => by
    rcases hvb with e | ⟨j, e, hj⟩
    · exact h.far k (by rw [← e]; exact hk)
    · rw [e] at hk; cases hk; exact Nat.le_trans h.room hj
  have nv : ∀ k, k < w.heap.size + 6 → k ≠ r → ¬ RS r v k := fun k hk hr hh => by
    rcases hh with hh | hh
    · exact hr hh
    · have := h.far k hh; omega
  have mv : ∀ {k : Nat} {o : Obj}, W.heap[k]? = some o → k < w.heap.size + 6 → k ≠ r → W3.heap[k]? = some o := fun ho hk hr => (T.block _ (heap_lt ho) (nv _ hk hr)).trans ho
  have bq3 := mv h.bq (by omega) (by omega)
  have t2 : Turn (At1 q) W3 (W3.setCell ⟨q, 0, none⟩ (.int .i64 ((n : Int) + 1))) := (Turn.refl (At1 q) W3).setCell (p := ⟨q, 0, none⟩) (.inl rfl) _
  have mv2 : ∀ {k : Nat} {o : Obj}, W3.heap[k]? = some o → k ≠ q → (W3.setCell ⟨q, 0, none⟩ (.int .i64 ((n : Int) + 1))).heap[k]? = some o := fun ho hq => (t2.block _ (heap_lt ho) hq).trans ho
  obtain ⟨hok, hp1⟩ := h.ok.step hx
  have hlow3 := T.under h.low (rs_low h) h.low.size
  refine ⟨(keeps_rs h.at_ T).trans (keeps_at1 t2 bq3), ?_, n + 1, pp.1, pp.2, v', ⟨hgo, hok, fun h => absurd h (by omega), fun h => absurd h (by omega), ?_, ⟨mv2 hat.blk (by omega), own_blk hat.own (fun k hk => t2.block k (hat.own.lt k hk).2 (fun e => by have e : k = q := e; have := hfar k hk; omega)), hat.apart, hat.low⟩, hfar, mv2 (mv h.b0 (by omega) (by omega)) (by omega), mv2 (mv h.b1 (by omega) (by omega)) (by omega), mv2 (mv h.bp (by omega) (by omega)) (by omega), heap_setCell_at bq3 0 _, ?_, ?_, fun h => absurd h (by omega)⟩⟩
  · have hxl : x < W.heap.size := by have := h.room; omega
    exact (t2.block x (Nat.lt_of_lt_of_le hxl T.size) (fun e => by have e : x = q := e; omega)).trans (T.block x hxl (nv x (by omega) (by omega)))
  · have := h.len; rw [hta] at this; simp at this; omega
  · exact t2.under hlow3 (fun k hk => by have hk : k = q := hk; omega) hlow3.size
  · exact Nat.le_trans h.room (Nat.le_trans T.size t2.size)

theorem addTurn_code {s : ScriptD} {t : TurnD} {c : Int} (h : addTurn s t = .error c) : c = 2 ∨ c = 4 ∨ c = 5 := by
  unfold addTurn at h
  split at h
  · cases h; simp
  · split at h
    · cases h; simp
    · cases h

theorem stepS_code {ph : Nat} {s : ScriptD} {L : List Bs} {c : Int} (h : stepS ph s L = .error c) : c = 2 ∨ c = 4 ∨ c = 5 := by
  have hm : ∀ c, machineS s L = .error c → c = 2 ∨ c = 4 ∨ c = 5 := by
    intro c h
    unfold machineS at h
    simp only at h
    split at h
    · cases h; simp
    · split at h
      · split at h
        · split at h
          · cases h
          · cases h; simp
        · cases h; simp
      · cases h; simp
  have hb : ∀ c, bytesS s L = .error c → c = 2 ∨ c = 4 ∨ c = 5 := by
    intro c h
    unfold bytesS at h
    split at h
    · split at h
      · cases h; simp
      · split at h
        · cases h; simp
        · split at h
          · cases h; simp
          · cases h
    · cases h; simp
  have ht : ∀ c, turnS s L = .error c → c = 2 ∨ c = 4 ∨ c = 5 := by
    intro c h
    unfold turnS at h
    split at h
    · cases h; simp
    · split at h
      · cases h; simp
      · split at h
        · split at h
          · exact addTurn_code h
          · cases h; simp
        · split at h
          · split at h
            · exact addTurn_code h
            · cases h; simp
          · split at h
            · split at h
              · exact addTurn_code h
              · cases h; simp
            · split at h
              · split at h
                · exact addTurn_code h
                · cases h; simp
              · cases h; simp
  unfold stepS at h
  split at h
  · cases e : machineS s L with
    | error c' => rw [e] at h; cases h; exact hm _ e
    | ok s' => rw [e] at h; cases h
  · split at h
    · cases e : bytesS s L with
      | error c' => rw [e] at h; cases h; exact hb _ e
      | ok s' => rw [e] at h; cases h
    · cases e : turnS s L with
      | error c' => rw [e] at h; cases h; exact ht _ e
      | ok s' => rw [e] at h; cases h

/-- What a round that has told a fault leaves. -/
theorem perr_end {w W X : World} {t0 rest : Bs} {x f n r p q : Nat} {c : Int} {a : Act} (hgo : parseGo t0 0 0 zeroS = .error (c, n)) (hk : KeepsOthers W X) (h0 : X.heap[w.heap.size]? = some (.cells sZero 26)) (h1 : X.heap[w.heap.size + 1]? = some (.cells #[.nilIface] 46)) (hf : X.heap[f]? = some (.cells #[.int .i64 c, .int .i64 n] 54)) (hf6 : w.heap.size + 6 ≤ f) (hl : Below w.heap.size w X) :
    linePost x (PInv w r p q t0) (PErr w t0) rest W .ret a ((X.setCell ⟨w.heap.size + 1, 0, none⟩ (.iface 93 (.pointer (some ⟨f, 0, none⟩)))).drew) := by
  have t : Turn (At1 (w.heap.size + 1)) X ((X.setCell ⟨w.heap.size + 1, 0, none⟩ (.iface 93 (.pointer (some ⟨f, 0, none⟩)))).drew) := ((Turn.refl (At1 (w.heap.size + 1)) X).setCell (p := ⟨w.heap.size + 1, 0, none⟩) (.inl rfl) _).drew
  refine ⟨hk.trans (keeps_at1 t h1), c, n, f, hgo, ?_, heap_setCell_at h1 0 _, ?_, hf6, t.under hl (fun k hk => by have hk : k = w.heap.size + 1 := hk; omega) hl.size⟩
  · exact (t.block _ (heap_lt h0) (fun e => by have e : w.heap.size = w.heap.size + 1 := e; omega)).trans h0
  · exact (t.block _ (heap_lt hf) (fun e => by have e : f = w.heap.size + 1 := e; omega)).trans hf

theorem perr_a {w W Z : World} {t0 rest : Bs} {x n r p q : Nat} {c : Int} {a : Act} (hgo : parseGo t0 0 0 zeroS = .error (c, n)) (hk : KeepsOthers W Z) (h0 : Z.heap[w.heap.size]? = some (.cells sZero 26)) (h1 : Z.heap[w.heap.size + 1]? = some (.cells #[.nilIface] 46)) (hf6 : w.heap.size + 6 ≤ Z.heap.size) (hl : Below w.heap.size w Z) :
    linePost x (PInv w r p q t0) (PErr w t0) rest W .ret a (((zero6 (Z.alloc (.cells #[.int .i64 c, .int .i64 n] 54)) w.heap.size).setCell ⟨w.heap.size + 1, 0, none⟩ (.iface 93 (.pointer (some ⟨Z.heap.size, 0, none⟩)))).drew) := by
  obtain ⟨e1, e2⟩ := alloc1 (w := Z) (a := .cells #[.int .i64 c, .int .i64 n] 54) rfl
  have h0' := (e2.block _ (heap_lt h0) (fun h => h)).trans h0
  have h1' := (e2.block _ (heap_lt h1) (fun h => h)).trans h1
  have t := zero6_turn (Z.alloc (.cells #[.int .i64 c, .int .i64 n] 54)) w.heap.size
  refine perr_end hgo ((hk.trans (keeps_nn e2)).trans (keeps_at1 t h0')) (zero6_blk h0') ((t.block _ (heap_lt h1') (fun e => by have e : w.heap.size + 1 = w.heap.size := e; omega)).trans h1') ((t.block _ (heap_lt e1) (fun e => by have e : Z.heap.size = w.heap.size := e; omega)).trans e1) hf6 ?_
  have hl2 := e2.under hl (fun _ h => h.elim) hl.size
  exact t.under hl2 (fun k hk => by have hk : k = w.heap.size := hk; omega) hl2.size

theorem zero6_size (w : World) (h : Nat) : (zero6 w h).heap.size = w.heap.size := by simp [zero6, World.setCell]

theorem perr_b {w W Z : World} {t0 rest : Bs} {x n r p q : Nat} {c : Int} {a : Act} (hgo : parseGo t0 0 0 zeroS = .error (c, n)) (hk : KeepsOthers W Z) (h0 : Z.heap[w.heap.size]? = some (.cells sZero 26)) (h1 : Z.heap[w.heap.size + 1]? = some (.cells #[.nilIface] 46)) (hf6 : w.heap.size + 6 ≤ Z.heap.size) (hl : Below w.heap.size w Z) :
    linePost x (PInv w r p q t0) (PErr w t0) rest W .ret a ((((zero6 Z w.heap.size).alloc (.cells #[.int .i64 c, .int .i64 n] 54)).setCell ⟨w.heap.size + 1, 0, none⟩ (.iface 93 (.pointer (some ⟨Z.heap.size, 0, none⟩)))).drew) := by
  have t := zero6_turn Z w.heap.size
  have h0' := zero6_blk h0
  have h1' := (t.block _ (heap_lt h1) (fun e => by have e : w.heap.size + 1 = w.heap.size := e; omega)).trans h1
  obtain ⟨e1, e2⟩ := alloc1 (w := zero6 Z w.heap.size) (a := .cells #[.int .i64 c, .int .i64 n] 54) rfl
  rw [zero6_size] at e1
  have hl2 := t.under hl (fun k hk => by have hk : k = w.heap.size := hk; omega) hl.size
  exact perr_end hgo ((hk.trans (keeps_at1 t h0)).trans (keeps_nn e2)) ((e2.block _ (heap_lt h0') (fun h => h)).trans h0') ((e2.block _ (heap_lt h1') (fun h => h)).trans h1') e1 hf6 (e2.under hl2 (fun _ h => h.elim) hl2.size)

def scriptV (s : ScriptD) (v : Value) : Value := .agg #[.int .i64 s.chans, .int .i64 s.actors, .int .i64 s.cap, .bool s.twin, .string (BT s.mod), v]
/-- Parse's answer. -/
def ParsePost (w : World) (t : Bs) (e : Ending) (w' : World) : Prop :=
  (match parseD t with
    | .ok s => ∃ v, e = .returned (.tuple #[scriptV s v, .nilIface]) ∧ w'.ownsRow w.heap.size 60 3 v s.turns.length (turnCells s.turns)
    | .error (c, n) => ∃ f, e = .returned (.tuple #[.agg sZero, .iface 93 (.pointer (some ⟨f, 0, none⟩))]) ∧ w'.heap[f]? = some (.cells #[.int .i64 c, .int .i64 n] 54) ∧ w.heap.size ≤ f) ∧ Turn Nn w w'

theorem ParsePost.fault {w w' : World} {t : Bs} {c : Int} {n f : Nat} (h : parseD t = .error (c, n)) (hf : w'.heap[f]? = some (.cells #[.int .i64 c, .int .i64 n] 54)) (hl : w.heap.size ≤ f) (ht : Turn Nn w w') : ParsePost w t (.returned (.tuple #[.agg sZero, .iface 93 (.pointer (some ⟨f, 0, none⟩))])) w' :=
  ⟨by rw [h]; exact ⟨f, rfl, hf, hl⟩, ht⟩
theorem ParsePost.good {w w' : World} {t : Bs} {s : ScriptD} {v : Value} (h : parseD t = .ok s) (ho : w'.ownsRow w.heap.size 60 3 v s.turns.length (turnCells s.turns)) (ht : Turn Nn w w') : ParsePost w t (.returned (.tuple #[scriptV s v, .nilIface])) w' :=
  ⟨by rw [h]; exact ⟨v, rfl, ho⟩, ht⟩

theorem parse_leave {w W : World} {D : Nat} {t0 : Bs} {tmps : Array Value} {v : Value} (hK : W.heap[D]? = some (.deferred (some [])))
    (hres : ∀ o, (results Tryz.f14 tmps).run Tryz.prog (W.putObj D o) = .ok v (W.putObj D o)) (hR : ∀ o, ParsePost w t0 (.returned v) (W.putObj D o)) :
    LeavesInM Fence.wide 9 Tryz.prog Tryz.f14 tmps (ParsePost w t0) [{ target := .collected D, args := #[] }] .returning W :=
  ⟨by simp, .inl ⟨_, _, rfl, run_takeDeferred hK, ⟨_, hres _, hR _⟩⟩⟩

theorem parse_res {w : World} {H K : Nat} {tmps : Array Value} {c0 c1 c2 c3 c4 c5 i : Value} (h2 : tmps[2]?.getD undef = .pointer (some ⟨H, 0, none⟩)) (h3 : tmps[3]?.getD undef = .pointer (some ⟨K, 0, none⟩))
    (hb : w.heap[H]? = some (.cells #[c0, c1, c2, c3, c4, c5] 26)) (hi : w.heap[K]? = some (.cells #[i] 46)) : (results Tryz.f14 tmps).run Tryz.prog w = .ok (.tuple #[.agg #[c0, c1, c2, c3, c4, c5], i]) w := by
  have d0 := cell_blk (o := 0) hb
  have d1 := cell_blk (o := 1) hb
  have d2 := cell_blk (o := 2) hb
  have d3 := cell_blk (o := 3) hb
  have d4 := cell_blk (o := 4) hb
  have d5 := cell_blk (o := 5) hb
  have i0 := cell_blk (o := 0) hi
  simp only [List.getElem?_toArray, List.getElem?_cons_succ, List.getElem?_cons_zero] at d0 d1 d2 d3 d4 d5 i0
  simp only [results, show Tryz.f14.results = #[.cell 2 26, .cell 3 46] from rfl]
  go_simp

theorem put_low {w X : World} {D : Nat} {o : Obj} (hl : Below w.heap.size w X) (hD : w.heap.size ≤ D) : Turn Nn w (X.putObj D o) :=
  ⟨hl.os, hl.tape, hl.output, by rw [World.putObj_size]; exact hl.size, fun k hk _ => (World.putObj_heap_other (by omega)).trans (hl.block k hk)⟩

theorem leave_err {w X : World} {D f n : Nat} {c : Int} {t0 : Bs} {tmps : Array Value} (hK : X.heap[D]? = some (.deferred (some []))) (hp : parseD t0 = .error (c, n)) (h0 : X.heap[w.heap.size]? = some (.cells sZero 26)) (h1 : X.heap[w.heap.size + 1]? = some (.cells #[.iface 93 (.pointer (some ⟨f, 0, none⟩))] 46)) (hf : X.heap[f]? = some (.cells #[.int .i64 c, .int .i64 n] 54)) (hf6 : w.heap.size ≤ f) (hl : Below w.heap.size w X) (hD : w.heap.size ≤ D)
    (t2 : tmps[2]?.getD undef = .pointer (some ⟨w.heap.size, 0, none⟩)) (t3 : tmps[3]?.getD undef = .pointer (some ⟨w.heap.size + 1, 0, none⟩)) : LeavesInM Fence.wide 9 Tryz.prog Tryz.f14 tmps (ParsePost w t0) [{ target := .collected D, args := #[] }] .returning X := by
  have ne : ∀ {k : Nat} {cs : Array Value} {ty : TypeId}, X.heap[k]? = some (.cells cs ty) → ∀ o, (X.putObj D o).heap[k]? = some (.cells cs ty) := fun h o => (World.putObj_heap_other (fun e => by rw [← e, h] at hK; cases hK)).trans h
  exact parse_leave hK (fun o => parse_res t2 t3 (ne h0 o) (ne h1 o)) (fun o => ParsePost.fault hp (ne hf o) hf6 (put_low hl hD))

theorem leave_ok {w X : World} {D : Nat} {s : ScriptD} {v : Value} {t0 : Bs} {tmps : Array Value} (hK : X.heap[D]? = some (.deferred (some []))) (hp : parseD t0 = .ok s) (h0 : X.heap[w.heap.size]? = some (.cells #[.int .i64 s.chans, .int .i64 s.actors, .int .i64 s.cap, .bool s.twin, .string (BT s.mod), v] 26)) (h1 : X.heap[w.heap.size + 1]? = some (.cells #[.nilIface] 46)) (ho : X.ownsRow w.heap.size 60 3 v s.turns.length (turnCells s.turns)) (hl : Below w.heap.size w X) (hD : w.heap.size ≤ D)
    (t2 : tmps[2]?.getD undef = .pointer (some ⟨w.heap.size, 0, none⟩)) (t3 : tmps[3]?.getD undef = .pointer (some ⟨w.heap.size + 1, 0, none⟩)) : LeavesInM Fence.wide 9 Tryz.prog Tryz.f14 tmps (ParsePost w t0) [{ target := .collected D, args := #[] }] .returning X := by
  have ne : ∀ {k : Nat} {cs : Array Value} {ty : TypeId}, X.heap[k]? = some (.cells cs ty) → ∀ o, (X.putObj D o).heap[k]? = some (.cells cs ty) := fun h o => (World.putObj_heap_other (fun e => by rw [← e, h] at hK; cases hK)).trans h
  refine parse_leave hK (fun o => parse_res t2 t3 (ne h0 o) (ne h1 o)) (fun o => ParsePost.good hp ?_ (put_low hl hD))
  refine own_blk ho (fun k hk => ?_)
  rcases ho.2 with ⟨rfl, _⟩ | ⟨g, cap, cur, rfl, _, hg, _⟩
  · cases hk
  · cases hk
    rw [ne hg, hg]

theorem leave_err_a {w Z : World} {D n : Nat} {c : Int} {t0 : Bs} {tmps : Array Value} (hK : Z.heap[D]? = some (.deferred (some []))) (hp : parseD t0 = .error (c, n)) (h0 : Z.heap[w.heap.size]? = some (.cells sZero 26)) (h1 : Z.heap[w.heap.size + 1]? = some (.cells #[.nilIface] 46)) (hl : Below w.heap.size w Z) (hf6 : w.heap.size + 6 ≤ Z.heap.size) (hD : w.heap.size ≤ D)
    (t2 : tmps[2]?.getD undef = .pointer (some ⟨w.heap.size, 0, none⟩)) (t3 : tmps[3]?.getD undef = .pointer (some ⟨w.heap.size + 1, 0, none⟩)) : LeavesInM Fence.wide 9 Tryz.prog Tryz.f14 tmps (ParsePost w t0) [{ target := .collected D, args := #[] }] .returning ((zero6 (Z.alloc (.cells #[.int .i64 c, .int .i64 n] 54)) w.heap.size).setCell ⟨w.heap.size + 1, 0, none⟩ (.iface 93 (.pointer (some ⟨Z.heap.size, 0, none⟩)))) := by
  obtain ⟨e1, e2⟩ := alloc1 (w := Z) (a := .cells #[.int .i64 c, .int .i64 n] 54) rfl
  have h0' := (e2.block _ (heap_lt h0) (fun h => h)).trans h0
  have h1' := (e2.block _ (heap_lt h1) (fun h => h)).trans h1
  have hK' := (e2.block _ (heap_lt hK) (fun h => h)).trans hK
  have t := zero6_turn (Z.alloc (.cells #[.int .i64 c, .int .i64 n] 54)) w.heap.size
  have dn0 : ¬ At1 w.heap.size D := fun e => by have e : D = w.heap.size := e; rw [e, h0] at hK; cases hK
  have dn1 : ¬ At1 (w.heap.size + 1) D := fun e => by have e : D = w.heap.size + 1 := e; rw [e, h1] at hK; cases hK
  have h0'' := zero6_blk h0'
  have h1'' := (t.block _ (heap_lt h1') (fun e => by have e : w.heap.size + 1 = w.heap.size := e; omega)).trans h1'
  have e1'' := (t.block _ (heap_lt e1) (fun e => by have e : Z.heap.size = w.heap.size := e; omega)).trans e1
  have hK'' := (t.block _ (heap_lt hK') dn0).trans hK'
  have u : Turn (At1 (w.heap.size + 1)) (zero6 (Z.alloc (.cells #[.int .i64 c, .int .i64 n] 54)) w.heap.size) ((zero6 (Z.alloc (.cells #[.int .i64 c, .int .i64 n] 54)) w.heap.size).setCell ⟨w.heap.size + 1, 0, none⟩ (.iface 93 (.pointer (some ⟨Z.heap.size, 0, none⟩)))) := (Turn.refl (At1 (w.heap.size + 1)) _).setCell (p := ⟨w.heap.size + 1, 0, none⟩) (.inl rfl) _
  have hl2 := e2.under hl (fun _ h => h.elim) hl.size
  have hl3 := t.under hl2 (fun k hk => by have hk : k = w.heap.size := hk; omega) hl2.size
  refine leave_err ((u.block _ (heap_lt hK'') dn1).trans hK'') hp ((u.block _ (heap_lt h0'') (fun e => by have e : w.heap.size = w.heap.size + 1 := e; omega)).trans h0'') (heap_setCell_at h1'' 0 _) ((u.block _ (heap_lt e1'') (fun e => by have e : Z.heap.size = w.heap.size + 1 := e; omega)).trans e1'') (by omega) ?_ hD t2 t3
  exact u.under hl3 (fun k hk => by have hk : k = w.heap.size + 1 := hk; omega) hl3.size

def set6 (w : World) (h : Nat) (a0 a1 a2 a3 a4 a5 : Value) : World := (((((w.setCell ⟨h, 0, none⟩ a0).setCell ⟨h, 1, none⟩ a1).setCell ⟨h, 2, none⟩ a2).setCell ⟨h, 3, none⟩ a3).setCell ⟨h, 4, none⟩ a4).setCell ⟨h, 5, none⟩ a5
theorem set6_blk {w : World} {h : Nat} {a0 a1 a2 a3 a4 a5 : Value} (hb : w.heap[h]? = some (.cells sZero 26)) : (set6 w h a0 a1 a2 a3 a4 a5).heap[h]? = some (.cells #[a0, a1, a2, a3, a4, a5] 26) :=
  heap_setCell_at (heap_setCell_at (heap_setCell_at (heap_setCell_at (heap_setCell_at (heap_setCell_at hb 0 _) 1 _) 2 _) 3 _) 4 _) 5 _
theorem set6_turn (w : World) (h : Nat) (a0 a1 a2 a3 a4 a5 : Value) : Turn (At1 h) w (set6 w h a0 a1 a2 a3 a4 a5) :=
  ((((((Turn.refl (At1 h) w).setCell (p := ⟨h, 0, none⟩) (.inl rfl) _).setCell (p := ⟨h, 1, none⟩) (.inl rfl) _).setCell (p := ⟨h, 2, none⟩) (.inl rfl) _).setCell (p := ⟨h, 3, none⟩) (.inl rfl) _).setCell (p := ⟨h, 4, none⟩) (.inl rfl) _).setCell (p := ⟨h, 5, none⟩) (.inl rfl) _

theorem leave_ok_a {w Z : World} {D : Nat} {s : ScriptD} {v : Value} {t0 t : Bs} {n ph r p q : Nat} {tmps : Array Value} (hK : Z.heap[D]? = some (.deferred (some []))) (hp : parseD t0 = .ok s) (h : PAt w r p q t0 t Z n ph s v) (hD : w.heap.size ≤ D)
    (t2 : tmps[2]?.getD undef = .pointer (some ⟨w.heap.size, 0, none⟩)) (t3 : tmps[3]?.getD undef = .pointer (some ⟨w.heap.size + 1, 0, none⟩)) : LeavesInM Fence.wide 9 Tryz.prog Tryz.f14 tmps (ParsePost w t0) [{ target := .collected D, args := #[] }] .returning ((set6 Z w.heap.size (.int .i64 s.chans) (.int .i64 s.actors) (.int .i64 s.cap) (.bool s.twin) (.string (BT s.mod)) v).setCell ⟨w.heap.size + 1, 0, none⟩ .nilIface) := by
  have t := set6_turn Z w.heap.size (.int .i64 s.chans) (.int .i64 s.actors) (.int .i64 s.cap) (.bool s.twin) (.string (BT s.mod)) v
  have b0 := set6_blk (a0 := .int .i64 s.chans) (a1 := .int .i64 s.actors) (a2 := .int .i64 s.cap) (a3 := .bool s.twin) (a4 := .string (BT s.mod)) (a5 := v) h.b0
  have dn0 : ¬ At1 w.heap.size D := fun e => by have e : D = w.heap.size := e; rw [e, h.b0] at hK; cases hK
  have dn1 : ¬ At1 (w.heap.size + 1) D := fun e => by have e : D = w.heap.size + 1 := e; rw [e, h.b1] at hK; cases hK
  have hK' := (t.block _ (heap_lt hK) dn0).trans hK
  have b1 := (t.block _ (heap_lt h.b1) (fun e => by have e : w.heap.size + 1 = w.heap.size := e; omega)).trans h.b1
  have u : Turn (At1 (w.heap.size + 1)) (set6 Z w.heap.size (.int .i64 s.chans) (.int .i64 s.actors) (.int .i64 s.cap) (.bool s.twin) (.string (BT s.mod)) v) ((set6 Z w.heap.size (.int .i64 s.chans) (.int .i64 s.actors) (.int .i64 s.cap) (.bool s.twin) (.string (BT s.mod)) v).setCell ⟨w.heap.size + 1, 0, none⟩ .nilIface) := (Turn.refl (At1 (w.heap.size + 1)) _).setCell (p := ⟨w.heap.size + 1, 0, none⟩) (.inl rfl) _
  have hl2 := t.under h.low (fun k hk => by have hk : k = w.heap.size := hk; omega) h.low.size
  refine leave_ok ((u.block _ (heap_lt hK') dn1).trans hK') hp ((u.block _ (heap_lt b0) (fun e => by have e : w.heap.size = w.heap.size + 1 := e; omega)).trans b0) (heap_setCell_at b1 0 _) ?_ (u.under hl2 (fun k hk => by have hk : k = w.heap.size + 1 := hk; omega) hl2.size) hD t2 t3
  refine own_blk (own_blk h.at_.own (fun k hk => t.block k (h.at_.own.lt k hk).2 (fun e => by have e : k = w.heap.size := e; have := h.far k hk; omega))) (fun k hk => u.block k ?_ (fun e => by have e : k = w.heap.size + 1 := e; have := h.far k hk; omega))
  exact Nat.lt_of_lt_of_le (h.at_.own.lt k hk).2 t.size

theorem alloc6 {w w' : World} {a b c d e f : Obj} (h : (((((w.alloc a).alloc b).alloc c).alloc d).alloc e).alloc f = w') : w'.heap[w.heap.size]? = some a ∧ w'.heap[w.heap.size + 1]? = some b ∧ w'.heap[w.heap.size + 1 + 1]? = some c ∧ w'.heap[w.heap.size + 1 + 1 + 1]? = some d ∧ w'.heap[w.heap.size + 1 + 1 + 1 + 1]? = some e ∧ w'.heap[w.heap.size + 1 + 1 + 1 + 1 + 1]? = some f ∧ Turn Nn w w' := by
  subst h
  obtain ⟨h1, h2, h3, h4, h5⟩ := alloc4 (w := w) (a := a) (b := b) (c := c) (d := d) rfl
  obtain ⟨h6, h7, h8⟩ := alloc2 (w := (((w.alloc a).alloc b).alloc c).alloc d) (a := e) (b := f) rfl
  simp only [World.size_alloc] at h6 h7
  exact ⟨(h8.block _ (heap_lt h1) (fun h => h)).trans h1, (h8.block _ (heap_lt h2) (fun h => h)).trans h2, (h8.block _ (heap_lt h3) (fun h => h)).trans h3, (h8.block _ (heap_lt h4) (fun h => h)).trans h4, h6, h7, h5.trans h8⟩

set_option maxRecDepth 100000 in
set_option maxHeartbeats 8000000 in
theorem parse_in (t0 : Bs) (w : World) (hl : Laid w) (hm : Mx w) (ht : t0.length ≤ 800000 - 2) :
    CallsIn Fence.wide 9 Tryz.prog 14 #[.string (BT t0)] w (ParsePost w t0) := by
  refine callsIn_of_wp_marks Tryz.func14 rfl trivial ?_ rfl
  simp only [Tryz.ntmps14, List.size_toArray, List.length_cons, List.length_nil, Nat.reduceAdd, Nat.reduceSub, Array.replicate_succ, Array.replicate_zero, List.push_toArray, List.append_toArray, List.nil_append, List.cons_append]
  gi_wp2_with fail
  refine ⟨trivial, (callsIn_wide.2 (lines_any _ _)).mono ?_⟩
  rintro e w' ⟨rfl, hw⟩
  have HW := Lib.hid hw
  clear hw
  have hmix : Tryz.prog.follows .mixedOrders = true := by kernel_rfl
  gi_wp2_with fail
  obtain ⟨a0, a1, a2, a3, a4, a5, hT⟩ := alloc6 HW.out.symm
  obtain ⟨r, hr⟩ : ∃ r, w.heap.size + 1 + 1 = r := ⟨_, rfl⟩
  obtain ⟨p, hp⟩ : ∃ p, r + 1 = p := ⟨_, rfl⟩
  obtain ⟨q, hq⟩ : ∃ q, p + 1 = q := ⟨_, rfl⟩
  obtain ⟨x, hx⟩ : ∃ x, q + 1 = x := ⟨_, rfl⟩
  have hsz : w'.heap.size = w.heap.size + 6 := by rw [HW.out]; simp only [World.size_alloc]
  rw [hr, hp, hq, hx] at a5
  rw [hr, hp, hq] at a4
  rw [hr, hp] at a3
  rw [hr] at a2
  rw [hr, hp, hq, hx]
  have er : r = w.heap.size + 2 := by omega
  have ep : p = w.heap.size + 3 := by omega
  have eq : q = w.heap.size + 4 := by omega
  have ex : x = w.heap.size + 5 := by omega
  clear HW hr hp hq hx
  have ER := Lib.hid er
  have EP := Lib.hid ep
  have EQ := Lib.hid eq
  have EX := Lib.hid ex
  have hI0 : PInv w r p q t0 t0 w' := ⟨0, 0, zeroS, .slice none 0 0, ⟨rfl, ⟨by omega, fun _ => rfl, fun h => absurd h (by omega), by simp [zeroS], by simp [zeroS]⟩, fun _ => rfl, fun _ => rfl, by omega, ⟨a2, World.ownsRow_nil w' _ 60 3, by simp [Value.ownBlock], by omega⟩, fun k hk => by simp [Value.ownBlock] at hk, a0, a1, a3, a4, hT.below, by omega, fun _ => rfl⟩⟩
  clear er ep eq ex
  refine wpIn_rangeLines (Bx := x) (by omega) (t0 := t0) (by omega) rfl a5 (PInv w r p q t0) (PErr w t0) (PInv.own (by omega)) (PErr.own (by omega)) (PInv.box ER.out EP.out EQ.out EX.out) hI0 (fun x1 => { tmps := #[.string (BT t0), undef, .pointer (some ⟨w.heap.size, 0, none⟩), .pointer (some ⟨w.heap.size + 1, 0, none⟩), .pointer (some ⟨p, 0, none⟩), .pointer (some ⟨q, 0, none⟩), .string x1, undef, undef, undef, .agg #[.int .i64 0, .int .i64 0, .int .i64 0, .bool false, .string ⟨#[]⟩, .slice none 0 0, .nilFunc], .pointer (some ⟨r, 0, none⟩), .pointer (some ⟨r, 0, none⟩), .pointer (some ⟨r, 0, none⟩), .func (.func 35) #[.pointer (some ⟨r, 0, none⟩)] #[], .pointer (some ⟨r, 0, none⟩), .pointer (some ⟨r, 6, none⟩), .string (BT t0), .func (.func 56) #[] #[.pointer (some ⟨x, 0, none⟩)], .string x1, undef, undef, undef, undef, undef, undef, undef, undef, undef, undef, undef, undef, undef, undef, undef, undef, undef, undef, undef, undef, undef, undef, undef, undef, undef, undef, undef, undef, undef, undef, undef, undef, undef], defers := [] }) ?assign ?body ?done ?stop
  case assign =>
    intro l x1 W K hK
    simp only [List.zip_toArray, List.zip_cons_cons, List.zip_nil_right, List.size_toArray, List.length_cons, List.length_nil, List.foldl_toArray, List.foldl_cons, List.foldl_nil]
    gi_wp2
    exact hK
  case body =>
    intro l t W hne htl hI hbx
    obtain ⟨n, ph, s, v, h⟩ := hI
    have cq := cell_blk (o := 0) h.bq
    have cp := cell_blk (o := 0) h.bp
    have fq := frozen_blk (o := 0) h.bq
    have c1 := cell_blk (o := 0) h.b1
    have f1 := frozen_blk (o := 0) h.b1
    have d0 := cell_blk (o := 0) h.b0
    have d1 := cell_blk (o := 1) h.b0
    have d2 := cell_blk (o := 2) h.b0
    have d3 := cell_blk (o := 3) h.b0
    have d4 := cell_blk (o := 4) h.b0
    have d5 := cell_blk (o := 5) h.b0
    have e0 := frozen_blk (o := 0) h.b0
    have e1 := frozen_blk (o := 1) h.b0
    have e2 := frozen_blk (o := 2) h.b0
    have e3 := frozen_blk (o := 3) h.b0
    have e4 := frozen_blk (o := 4) h.b0
    have e5 := frozen_blk (o := 5) h.b0
    simp only [sZero, List.getElem?_toArray, List.getElem?_cons_succ, List.getElem?_cons_zero] at cq cp c1 d0 d1 d2 d3 d4 d5
    have hnb : n ≤ 1000000 := by have := h.len; omega
    have n0 : ¬ q = w.heap.size := by have := EQ.out; omega
    have n1 : ¬ q = w.heap.size + 1 := by have := EQ.out; omega
    have n2 : ¬ w.heap.size = q := by have := EQ.out; omega
    have n3 : ¬ w.heap.size + 1 = q := by have := EQ.out; omega
    cases hc : cutL t with
    | none =>
      have hnx : nextL t = (t, []) := by unfold nextL; rw [hc]
      rw [hnx] at hbx ⊢
      simp only at hbx ⊢
      have hnl := cutL_nonl hc
      have HGO := Lib.hid (h.go.trans (parseGo_end hnl hne n ph s))
      have HC := Lib.hid (cutSuffix_no hnl (by omega) W)
      obtain ⟨D, hD⟩ : ∃ D, BT t = D := ⟨_, rfl⟩
      rw [hD] at HC ⊢
      have D0 : ∀ o, (W.alloc o).cell? ⟨w.heap.size, 0, none⟩ = _ := fun o => cell_turn (alloc1 rfl).2 d0
      have E0 : ∀ o, (W.alloc o).frozen? ⟨w.heap.size, 0, none⟩ = false := fun o => frozen_blk (((alloc1 (w := W) (a := o) rfl).2.block _ (heap_lt h.b0) (fun h => h)).trans h.b0)
      have D1 : ∀ o, (W.alloc o).cell? ⟨w.heap.size, 1, none⟩ = _ := fun o => cell_turn (alloc1 rfl).2 d1
      have E1 : ∀ o, (W.alloc o).frozen? ⟨w.heap.size, 1, none⟩ = false := fun o => frozen_blk (((alloc1 (w := W) (a := o) rfl).2.block _ (heap_lt h.b0) (fun h => h)).trans h.b0)
      have D2 : ∀ o, (W.alloc o).cell? ⟨w.heap.size, 2, none⟩ = _ := fun o => cell_turn (alloc1 rfl).2 d2
      have E2 : ∀ o, (W.alloc o).frozen? ⟨w.heap.size, 2, none⟩ = false := fun o => frozen_blk (((alloc1 (w := W) (a := o) rfl).2.block _ (heap_lt h.b0) (fun h => h)).trans h.b0)
      have D3 : ∀ o, (W.alloc o).cell? ⟨w.heap.size, 3, none⟩ = _ := fun o => cell_turn (alloc1 rfl).2 d3
      have E3 : ∀ o, (W.alloc o).frozen? ⟨w.heap.size, 3, none⟩ = false := fun o => frozen_blk (((alloc1 (w := W) (a := o) rfl).2.block _ (heap_lt h.b0) (fun h => h)).trans h.b0)
      have D4 : ∀ o, (W.alloc o).cell? ⟨w.heap.size, 4, none⟩ = _ := fun o => cell_turn (alloc1 rfl).2 d4
      have E4 : ∀ o, (W.alloc o).frozen? ⟨w.heap.size, 4, none⟩ = false := fun o => frozen_blk (((alloc1 (w := W) (a := o) rfl).2.block _ (heap_lt h.b0) (fun h => h)).trans h.b0)
      have D5 : ∀ o, (W.alloc o).cell? ⟨w.heap.size, 5, none⟩ = _ := fun o => cell_turn (alloc1 rfl).2 d5
      have E5 : ∀ o, (W.alloc o).frozen? ⟨w.heap.size, 5, none⟩ = false := fun o => frozen_blk (((alloc1 (w := W) (a := o) rfl).2.block _ (heap_lt h.b0) (fun h => h)).trans h.b0)
      have C1 : ∀ o, (W.alloc o).cell? ⟨w.heap.size + 1, 0, none⟩ = _ := fun o => cell_turn (alloc1 rfl).2 c1
      have F1 : ∀ o, (W.alloc o).frozen? ⟨w.heap.size + 1, 0, none⟩ = false := fun o => frozen_blk (((alloc1 (w := W) (a := o) rfl).2.block _ (heap_lt h.b1) (fun h => h)).trans h.b1)
      have CQ : ∀ o, (W.alloc o).cell? ⟨q, 0, none⟩ = _ := fun o => cell_turn (alloc1 rfl).2 cq
      have hz0 := h.b0
      have hz1 := h.b1
      have hz6 := h.room
      have KZ := Lib.hid (KeepsOthers.refl W)
      have LZ := Lib.hid h.low
      clear hnx hc hnl hD h hbx
      gi_wp2_with fail
      refine ⟨trivial, (CallsIn.inRound l (callsIn_wide.2 HC.out)).mono ?_⟩
      rintro e W' ⟨rfl, rfl⟩
      gi_wp2_with fail
      refine wpIn_regionR (fun u => u.cell? ⟨q, 0, none⟩ = some (.int .i64 n)) (by kernel_rfl) ?_
      have hS : (fun u : World => u.cell? ⟨q, 0, none⟩ = some (.int .i64 n)) W'.drew := cq
      refine OrdersR.take 0 ?_ rfl (by kernel_rfl) (by kernel_rfl) (by kernel_rfl) (by kernel_rfl) (fun _ _ _ h => h) (Or.inl ⟨by kernel_rfl, ?_⟩) (fun _ => rfl) hS ?_
      rotate_left 1
      · intro u hu; go_simp; first | done | with_reducible rfl
      try simp only [Act.put, List.setIfInBounds_toArray, List.set_cons_succ, List.set_cons_zero]
      refine OrdersR.take 1 ?_ rfl (by kernel_rfl) (by kernel_rfl) (by kernel_rfl) (by kernel_rfl) (fun _ _ _ h => h) (Or.inl ⟨by kernel_rfl, ?_⟩) (fun _ => rfl) hS ?_
      rotate_left 1
      · intro u hu; go_simp; first | done | with_reducible rfl
      try simp only [Act.put, List.setIfInBounds_toArray, List.set_cons_succ, List.set_cons_zero]
      refine OrdersR.take 2 ?_ rfl (by kernel_rfl) (by kernel_rfl) (by kernel_rfl) (by kernel_rfl) (fun _ _ _ h => h) (Or.inl ⟨by kernel_rfl, ?_⟩) (fun _ => rfl) hS ?_
      rotate_left 1
      · intro u hu; go_simp; first | done | with_reducible rfl
      try simp only [Act.put, List.setIfInBounds_toArray, List.set_cons_succ, List.set_cons_zero]
      refine OrdersR.take 3 ?_ rfl (by kernel_rfl) (by kernel_rfl) (by kernel_rfl) (by kernel_rfl) (fun _ _ _ h => h) (Or.inl ⟨by kernel_rfl, ?_⟩) (fun _ => rfl) hS ?_
      rotate_left 1
      · intro u hu; go_simp; first | done | with_reducible rfl
      try simp only [Act.put, List.setIfInBounds_toArray, List.set_cons_succ, List.set_cons_zero]
      refine OrdersR.pair 4 6 (by kernel_rfl) rfl rfl (by kernel_rfl) (by kernel_rfl) (fun K hK => ?_) (fun K hK => ?_)
      · go_simp
        refine hK _ _ (cell_turn (alloc1 (w := W'.drew) rfl).2 hS) ?_
        clear hK K
        try simp only [Act.put, List.setIfInBounds_toArray, List.set_cons_succ, List.set_cons_zero]
        refine OrdersR.take 5 ?_ rfl (by kernel_rfl) (by kernel_rfl) (by kernel_rfl) (by kernel_rfl) (fun _ _ _ h => h) (Or.inl ⟨by kernel_rfl, ?_⟩) (fun _ => rfl) (cell_turn (alloc1 (w := W'.drew) rfl).2 hS) ?_
        rotate_left 1
        · intro u hu; go_simp; first | done | with_reducible rfl
        try simp only [Act.put, List.setIfInBounds_toArray, List.set_cons_succ, List.set_cons_zero]
        refine OrdersR.one 6 (by kernel_rfl) rfl (by kernel_rfl) (fun K hK => ?_)
        go_simp
        refine hK _ _ ?_ ?_
        · show World.cell? _ ⟨q, 0, none⟩ = _; go_simp
        clear hK K
        try simp only [Act.put, List.setIfInBounds_toArray, List.set_cons_succ, List.set_cons_zero]
        refine OrdersR.one 7 (by kernel_rfl) rfl (by kernel_rfl) (fun K hK => ?_)
        go_simp
        refine hK _ _ ?_ ?_
        · show World.cell? _ ⟨q, 0, none⟩ = _; go_simp
        clear hK K
        try simp only [Act.put, List.setIfInBounds_toArray, List.set_cons_succ, List.set_cons_zero]
        refine OrdersR.done (by kernel_rfl) ?_
        gi_wp2_with fail
        exact perr_a HGO.out KZ.out hz0 hz1 hz6 LZ.out
      · go_simp
        generalize hZ : World.setCell (World.setCell (World.setCell (World.setCell (World.setCell (World.setCell W' _ _) _ _) _ _) _ _) _ _) _ _ = Z6
        have tz : Turn (At1 w.heap.size) W' Z6 := by rw [← hZ]; exact zero6_turn _ _
        have bz1 : Z6.heap[w.heap.size + 1]? = some (.cells #[.nilIface] 46) := (tz.block _ (heap_lt hz1) (fun e => by have e : w.heap.size + 1 = w.heap.size := e; omega)).trans hz1
        have cqz : Z6.cell? ⟨q, 0, none⟩ = some (.int .i64 n) := (World.cell?_of_block (tz.block q (World.block_lt_of_cell? W' _ hS) (fun e => n0 e))).trans hS
        have C1z : ∀ o, (Z6.alloc o).cell? ⟨w.heap.size + 1, 0, none⟩ = some .nilIface := fun o => cell_turn (alloc1 rfl).2 (cell_blk bz1)
        have F1z : ∀ o, (Z6.alloc o).frozen? ⟨w.heap.size + 1, 0, none⟩ = false := fun o => frozen_blk (((alloc1 (w := Z6) (a := o) rfl).2.block _ (heap_lt bz1) (fun h => h)).trans bz1)
        have CQz : ∀ o, (Z6.alloc o).cell? ⟨q, 0, none⟩ = _ := fun o => cell_turn (alloc1 rfl).2 cqz
        have hszz : Z6.heap.size = W'.heap.size := by rw [← hZ]; exact zero6_size _ _
        have HZZ := Lib.hid hZ
        have HSZ := Lib.hid hszz
        clear hZ hszz tz bz1
        refine hK _ _ cqz ?_
        clear hK K
        try simp only [Act.put, List.setIfInBounds_toArray, List.set_cons_succ, List.set_cons_zero]
        refine OrdersR.one 4 (by kernel_rfl) rfl (by kernel_rfl) (fun K hK => ?_)
        go_simp
        refine hK _ _ (CQz _) ?_
        clear hK K
        try simp only [Act.put, List.setIfInBounds_toArray, List.set_cons_succ, List.set_cons_zero]
        refine OrdersR.take 5 ?_ rfl (by kernel_rfl) (by kernel_rfl) (by kernel_rfl) (by kernel_rfl) (fun _ _ _ h => h) (Or.inl ⟨by kernel_rfl, ?_⟩) (fun _ => rfl) (CQz _) ?_
        rotate_left 1
        · intro u hu; go_simp; first | done | with_reducible rfl
        try simp only [Act.put, List.setIfInBounds_toArray, List.set_cons_succ, List.set_cons_zero]
        refine OrdersR.one 7 (by kernel_rfl) rfl (by kernel_rfl) (fun K hK => ?_)
        go_simp
        refine hK _ _ ?_ ?_
        · show World.cell? _ ⟨q, 0, none⟩ = _; go_simp
        clear hK K
        try simp only [Act.put, List.setIfInBounds_toArray, List.set_cons_succ, List.set_cons_zero]
        refine OrdersR.done (by kernel_rfl) ?_
        gi_wp2_with fail
        rw [HSZ.out, ← HZZ.out]
        exact perr_b HGO.out KZ.out hz0 hz1 hz6 LZ.out
    | some ab =>
      obtain ⟨a, b⟩ := ab
      have hnx : nextL t = (a ++ [10], b) := by unfold nextL; rw [hc]
      rw [hnx] at hbx ⊢
      simp only at hbx ⊢
      obtain ⟨hta, hna⟩ := cutL_some hc
      have hgl := parseGo_line a b hna n ph s
      rw [← hta] at hgl
      have HGL := Lib.hid (h.go.trans hgl)
      have hal : a.length ≤ 799998 := by have : a.length ≤ t.length := (by rw [hta]; simp); omega
      have HC := Lib.hid (cutSuffix_yes a (by omega) W)
      have HSPL := fun (u : World) (hu : Turn Nn W u) => split_any a (by omega) (w := u) ((hm.below h.low).turn hu)
      have HSP := Lib.hid HSPL
      have HH := Lib.hid h
      obtain ⟨F, hF⟩ : ∃ F, fnOf ph = F := ⟨_, rfl⟩
      have k6 : W.cell? ⟨r, 6, none⟩ = some (.func (.func F) #[.pointer (some ⟨r, 0, none⟩)] #[]) := by rw [← hF]; exact cell_blk (o := 6) h.at_.blk
      have k6a : ∀ o, (W.alloc o).cell? ⟨r, 6, none⟩ = some (.func (.func F) #[.pointer (some ⟨r, 0, none⟩)] #[]) := fun o => cell_turn (alloc1 rfl).2 k6
      have cpa : ∀ o, (W.alloc o).cell? ⟨p, 0, none⟩ = some (.pointer (some ⟨r, 0, none⟩)) := fun o => cell_turn (alloc1 rfl).2 cp
      have eF : ∀ args w, (callFunc F args).run Tryz.prog w = .ok (.enter F args) w := by
        subst hF
        obtain rfl | rfl | rfl : ph = 0 ∨ ph = 1 ∨ ph = 2 := by have := h.ok.ph2; omega
        · exact enters_of Tryz.func35 (by kernel_rfl) rfl
        · exact enters_of Tryz.func55 (by kernel_rfl) rfl
        · exact enters_of Tryz.func75 (by kernel_rfl) rfl
      have HFF := Lib.hid hF
      have HNX : Hid (∀ (W2 : World) (wv : Value), Turn Nn W W2 → StrSl W2 wv (spW a) → (∀ ad n c, wv = .slice (some ad) n c → ad.block = W.heap.size) → Calls Tryz.prog F #[.pointer (some ⟨r, 0, none⟩), wv] W2 (SPost W2 w.heap.size r v (stepS ph s (spW a)))) := Lib.hid (fun W2 wv t2 sl hb => by
        rw [← hF]
        refine next_any hl (t2.under h.low (fun _ h => h.elim) h.low.size) ⟨(t2.block r (heap_lt h.at_.blk) (fun h => h)).trans h.at_.blk, ownsRow_turn h.at_.own t2, h.at_.apart, h.at_.low⟩ h.ok.ph2 (fun h0 => by rw [h.ok.tw h0]; rfl) h.ok.turns h.ok.mod sl (spW_ne a) (fun ad n c e => ?_) ?_ ?_
        · have := hb ad n c e; have := heap_lt h.at_.blk; omega
        · have := spW_length a; omega
        · intro i hi
          have := spW_word_le a ((spW a)[i]?.getD []) (by simp [hi])
          omega)
      have HTA := Lib.hid hta
      have NV0 : Hid (¬ RS r v w.heap.size) := Lib.hid (fun hh => by
        have := ER.out
        rcases hh with hh | hh
        · omega
        · have := h.far _ hh; omega)
      have NV1 : Hid (¬ RS r v (w.heap.size + 1)) := Lib.hid (fun hh => by
        have := ER.out
        rcases hh with hh | hh
        · omega
        · have := h.far _ hh; omega)
      have NVQ : Hid (¬ RS r v q) := Lib.hid (fun hh => by
        have := ER.out; have := EQ.out
        rcases hh with hh | hh
        · omega
        · have := h.far _ hh; omega)
      have PNV : Hid (¬ RS r v p) := Lib.hid (fun hh => by
        have := ER.out; have := EP.out
        rcases hh with hh | hh
        · omega
        · have := h.far p hh; omega)
      obtain ⟨D, hD⟩ : ∃ D, BT (a ++ [10]) = D := ⟨_, rfl⟩
      obtain ⟨E, hE⟩ : ∃ E, BT a = E := ⟨_, rfl⟩
      rw [hD, hE] at HC
      rw [hE] at HSP
      rw [hD]
      clear hnx hc hD h hbx hE hgl hta hna HSPL hF
      gi_wp2_with fail
      refine ⟨trivial, (CallsIn.inRound l (callsIn_wide.2 HC.out)).mono ?_⟩
      rintro e W' ⟨rfl, rfl⟩
      gi_wp2_with fail
      refine wpIn_regionR (fun u => u.cell? ⟨p, 0, none⟩ = some (.pointer (some ⟨r, 0, none⟩))) (by kernel_rfl) ?_
      have hS : (fun u : World => u.cell? ⟨p, 0, none⟩ = some (.pointer (some ⟨r, 0, none⟩))) W'.drew := cp
      refine OrdersR.take 0 ?_ rfl (by kernel_rfl) (by kernel_rfl) (by kernel_rfl) (by kernel_rfl) (fun _ _ _ h => h) (Or.inl ⟨by kernel_rfl, ?_⟩) (fun _ => rfl) hS ?_
      rotate_left 1
      · intro u hu; go_simp; first | done | with_reducible rfl
      try simp only [Act.put, List.setIfInBounds_toArray, List.set_cons_succ, List.set_cons_zero]
      refine OrdersR.take 1 ?_ rfl (by kernel_rfl) (by kernel_rfl) (by kernel_rfl) (by kernel_rfl) (fun _ _ _ h => h) (Or.inl ⟨by kernel_rfl, ?_⟩) (fun _ => rfl) hS ?_
      rotate_left 1
      · intro u hu; go_simp; first | done | with_reducible rfl
      try simp only [Act.put, List.setIfInBounds_toArray, List.set_cons_succ, List.set_cons_zero]
      refine OrdersR.take 2 ?_ rfl (by kernel_rfl) (by kernel_rfl) (by kernel_rfl) (by kernel_rfl) (fun _ _ _ h => h) (Or.inl ⟨by kernel_rfl, ?_⟩) (fun _ => rfl) hS ?_
      rotate_left 1
      · intro u hu; go_simp; first | done | with_reducible rfl
      try simp only [Act.put, List.setIfInBounds_toArray, List.set_cons_succ, List.set_cons_zero]
      refine OrdersR.take 4 ?_ rfl (by kernel_rfl) (by kernel_rfl) (by kernel_rfl) (by kernel_rfl) (fun _ _ _ h => h) (Or.inl ⟨by kernel_rfl, ?_⟩) (fun _ => rfl) hS ?_
      rotate_left 1
      · intro u hu; go_simp; first | done | with_reducible rfl
      try simp only [Act.put, List.setIfInBounds_toArray, List.set_cons_succ, List.set_cons_zero]
      refine OrdersR.pair 3 5 (by kernel_rfl) rfl rfl (by kernel_rfl) (by kernel_rfl) (fun K hK => ?_) (fun K hK => ?_)
      · go_simp
        refine hK _ _ hS ?_
        clear hK K
        try simp only [Act.put, List.setIfInBounds_toArray, List.set_cons_succ, List.set_cons_zero]
        refine OrdersR.one 5 (by kernel_rfl) rfl (by kernel_rfl) (fun K hK => ?_)
        go_simp
        refine ⟨trivial, (CallsIn.inRound l (callsIn_wide.2 (HSP.out W'.drew ((Turn.refl _ _).drew)))).mono ?_⟩
        rintro e W2 ⟨wv, rfl, hsl, hwb, ht2⟩
        have ht2 : Turn Nn W' W2 := ((Turn.refl Nn W').drew).trans ht2
        have cp2 := cell_turn ht2 cp
        have k62 := cell_turn ht2 k6
        have HN := Lib.hid (HNX.out W2 wv ht2 hsl (fun ad n c e => by have := hwb ad n c e; exact this))
        have HT2 := Lib.hid ht2
        refine hK _ _ cp2 ?_
        clear hK K hsl hwb ht2
        try simp only [Act.put, List.setIfInBounds_toArray, List.set_cons_succ, List.set_cons_zero]
        refine OrdersR.one 6 (by kernel_rfl) rfl (by kernel_rfl) (fun K hK => ?_)
        go_simp
        refine ⟨trivial, (CallsIn.inRound l (callsIn_wide.2 HN.out)).mono ?_⟩
        rintro e W3 hp
        have hp2 := hp.2
        have T3 := Lib.hid (HT2.out.wide.trans hp2)
        have cp3 : W3.cell? ⟨p, 0, none⟩ = some (.pointer (some ⟨r, 0, none⟩)) := (World.cell?_of_block (hp2.block p (World.block_lt_of_cell? W2 _ cp2) PNV.out)).trans cp2
        clear hp2
        cases hx : stepS ph s (spW a) with
        | error c =>
          rw [hx] at hp
          obtain ⟨rfl, _⟩ := hp
          have hc0 := stepS_code hx
          have hc1 : (c != 0) = true := by rw [bne_iff_ne]; omega
          have hc2 : (c == 0) = false := by rw [beq_eq_false_iff_ne]; omega
          have HGO : Hid (parseGo t0 0 0 zeroS = .error (c, n)) := Lib.hid (by rw [HGL.out, hx])
          refine hK _ _ cp3 ?_
          clear hK K hx hc0
          try simp only [Act.put, List.setIfInBounds_toArray, List.set_cons_succ, List.set_cons_zero]
          have hz0 := (T3.out.block _ (heap_lt HH.out.b0) NV0.out).trans HH.out.b0
          have hz1 := (T3.out.block _ (heap_lt HH.out.b1) NV1.out).trans HH.out.b1
          have hzq := (T3.out.block _ (heap_lt HH.out.bq) NVQ.out).trans HH.out.bq
          have hz6 : w.heap.size + 6 ≤ W3.heap.size := Nat.le_trans HH.out.room T3.out.size
          have KZ := Lib.hid (keeps_rs HH.out.at_ T3.out)
          have LZ := Lib.hid (T3.out.under HH.out.low (rs_low HH.out) HH.out.low.size)
          clear d0 d1 d2 d3 d4 d5 e0 e1 e2 e3 e4 e5 c1 f1 cq fq k6a cpa k6 cp k62 cp2 eF
          have d0 := cell_blk (o := 0) hz0
          have e0 := frozen_blk (o := 0) hz0
          have d1 := cell_blk (o := 1) hz0
          have e1 := frozen_blk (o := 1) hz0
          have d2 := cell_blk (o := 2) hz0
          have e2 := frozen_blk (o := 2) hz0
          have d3 := cell_blk (o := 3) hz0
          have e3 := frozen_blk (o := 3) hz0
          have d4 := cell_blk (o := 4) hz0
          have e4 := frozen_blk (o := 4) hz0
          have d5 := cell_blk (o := 5) hz0
          have e5 := frozen_blk (o := 5) hz0
          have c1 := cell_blk (o := 0) hz1
          have f1 := frozen_blk (o := 0) hz1
          have cq := cell_blk (o := 0) hzq
          simp only [sZero, List.getElem?_toArray, List.getElem?_cons_succ, List.getElem?_cons_zero] at cq c1 d0 d1 d2 d3 d4 d5
          have D0 : ∀ o, (W3.alloc o).cell? ⟨w.heap.size, 0, none⟩ = _ := fun o => cell_turn (alloc1 rfl).2 d0
          have E0 : ∀ o, (W3.alloc o).frozen? ⟨w.heap.size, 0, none⟩ = false := fun o => frozen_blk (((alloc1 (w := W3) (a := o) rfl).2.block _ (heap_lt hz0) (fun h => h)).trans hz0)
          have D1 : ∀ o, (W3.alloc o).cell? ⟨w.heap.size, 1, none⟩ = _ := fun o => cell_turn (alloc1 rfl).2 d1
          have E1 : ∀ o, (W3.alloc o).frozen? ⟨w.heap.size, 1, none⟩ = false := fun o => frozen_blk (((alloc1 (w := W3) (a := o) rfl).2.block _ (heap_lt hz0) (fun h => h)).trans hz0)
          have D2 : ∀ o, (W3.alloc o).cell? ⟨w.heap.size, 2, none⟩ = _ := fun o => cell_turn (alloc1 rfl).2 d2
          have E2 : ∀ o, (W3.alloc o).frozen? ⟨w.heap.size, 2, none⟩ = false := fun o => frozen_blk (((alloc1 (w := W3) (a := o) rfl).2.block _ (heap_lt hz0) (fun h => h)).trans hz0)
          have D3 : ∀ o, (W3.alloc o).cell? ⟨w.heap.size, 3, none⟩ = _ := fun o => cell_turn (alloc1 rfl).2 d3
          have E3 : ∀ o, (W3.alloc o).frozen? ⟨w.heap.size, 3, none⟩ = false := fun o => frozen_blk (((alloc1 (w := W3) (a := o) rfl).2.block _ (heap_lt hz0) (fun h => h)).trans hz0)
          have D4 : ∀ o, (W3.alloc o).cell? ⟨w.heap.size, 4, none⟩ = _ := fun o => cell_turn (alloc1 rfl).2 d4
          have E4 : ∀ o, (W3.alloc o).frozen? ⟨w.heap.size, 4, none⟩ = false := fun o => frozen_blk (((alloc1 (w := W3) (a := o) rfl).2.block _ (heap_lt hz0) (fun h => h)).trans hz0)
          have D5 : ∀ o, (W3.alloc o).cell? ⟨w.heap.size, 5, none⟩ = _ := fun o => cell_turn (alloc1 rfl).2 d5
          have E5 : ∀ o, (W3.alloc o).frozen? ⟨w.heap.size, 5, none⟩ = false := fun o => frozen_blk (((alloc1 (w := W3) (a := o) rfl).2.block _ (heap_lt hz0) (fun h => h)).trans hz0)
          have C1 : ∀ o, (W3.alloc o).cell? ⟨w.heap.size + 1, 0, none⟩ = _ := fun o => cell_turn (alloc1 rfl).2 c1
          have F1 : ∀ o, (W3.alloc o).frozen? ⟨w.heap.size + 1, 0, none⟩ = false := fun o => frozen_blk (((alloc1 (w := W3) (a := o) rfl).2.block _ (heap_lt hz1) (fun h => h)).trans hz1)
          have CQ : ∀ o, (W3.alloc o).cell? ⟨q, 0, none⟩ = _ := fun o => cell_turn (alloc1 rfl).2 cq
          refine OrdersR.one 7 (by kernel_rfl) rfl (by kernel_rfl) (fun K hK => ?_)
          go_simp
          refine hK _ _ cp3 ?_
          clear hK K
          try simp only [Act.put, List.setIfInBounds_toArray, List.set_cons_succ, List.set_cons_zero]
          refine OrdersR.done (by kernel_rfl) ?_
          gi_wp2_with fail
          refine wpIn_regionR (fun u => u.cell? ⟨q, 0, none⟩ = some (.int .i64 n)) (by kernel_rfl) ?_
          have hS : (fun u : World => u.cell? ⟨q, 0, none⟩ = some (.int .i64 n)) W3.drew := cq
          refine OrdersR.take 0 ?_ rfl (by kernel_rfl) (by kernel_rfl) (by kernel_rfl) (by kernel_rfl) (fun _ _ _ h => h) (Or.inl ⟨by kernel_rfl, ?_⟩) (fun _ => rfl) hS ?_
          rotate_left 1
          · intro u hu; go_simp; first | done | with_reducible rfl
          try simp only [Act.put, List.setIfInBounds_toArray, List.set_cons_succ, List.set_cons_zero]
          refine OrdersR.take 1 ?_ rfl (by kernel_rfl) (by kernel_rfl) (by kernel_rfl) (by kernel_rfl) (fun _ _ _ h => h) (Or.inl ⟨by kernel_rfl, ?_⟩) (fun _ => rfl) hS ?_
          rotate_left 1
          · intro u hu; go_simp; first | done | with_reducible rfl
          try simp only [Act.put, List.setIfInBounds_toArray, List.set_cons_succ, List.set_cons_zero]
          refine OrdersR.take 2 ?_ rfl (by kernel_rfl) (by kernel_rfl) (by kernel_rfl) (by kernel_rfl) (fun _ _ _ h => h) (Or.inl ⟨by kernel_rfl, ?_⟩) (fun _ => rfl) hS ?_
          rotate_left 1
          · intro u hu; go_simp; first | done | with_reducible rfl
          try simp only [Act.put, List.setIfInBounds_toArray, List.set_cons_succ, List.set_cons_zero]
          refine OrdersR.take 3 ?_ rfl (by kernel_rfl) (by kernel_rfl) (by kernel_rfl) (by kernel_rfl) (fun _ _ _ h => h) (Or.inl ⟨by kernel_rfl, ?_⟩) (fun _ => rfl) hS ?_
          rotate_left 1
          · intro u hu; go_simp; first | done | with_reducible rfl
          try simp only [Act.put, List.setIfInBounds_toArray, List.set_cons_succ, List.set_cons_zero]
          refine OrdersR.pair 4 6 (by kernel_rfl) rfl rfl (by kernel_rfl) (by kernel_rfl) (fun K hK => ?_) (fun K hK => ?_)
          · go_simp
            refine hK _ _ (cell_turn (alloc1 (w := W3.drew) rfl).2 hS) ?_
            clear hK K
            try simp only [Act.put, List.setIfInBounds_toArray, List.set_cons_succ, List.set_cons_zero]
            refine OrdersR.take 5 ?_ rfl (by kernel_rfl) (by kernel_rfl) (by kernel_rfl) (by kernel_rfl) (fun _ _ _ h => h) (Or.inl ⟨by kernel_rfl, ?_⟩) (fun _ => rfl) (cell_turn (alloc1 (w := W3.drew) rfl).2 hS) ?_
            rotate_left 1
            · intro u hu; go_simp; first | done | with_reducible rfl
            try simp only [Act.put, List.setIfInBounds_toArray, List.set_cons_succ, List.set_cons_zero]
            refine OrdersR.one 6 (by kernel_rfl) rfl (by kernel_rfl) (fun K hK => ?_)
            go_simp
            refine hK _ _ ?_ ?_
            · show World.cell? _ ⟨q, 0, none⟩ = _; go_simp
            clear hK K
            try simp only [Act.put, List.setIfInBounds_toArray, List.set_cons_succ, List.set_cons_zero]
            refine OrdersR.one 7 (by kernel_rfl) rfl (by kernel_rfl) (fun K hK => ?_)
            go_simp
            refine hK _ _ ?_ ?_
            · show World.cell? _ ⟨q, 0, none⟩ = _; go_simp
            clear hK K
            try simp only [Act.put, List.setIfInBounds_toArray, List.set_cons_succ, List.set_cons_zero]
            refine OrdersR.done (by kernel_rfl) ?_
            gi_wp2_with fail
            exact perr_a HGO.out KZ.out hz0 hz1 hz6 LZ.out
          · go_simp
            generalize hZ : World.setCell (World.setCell (World.setCell (World.setCell (World.setCell (World.setCell W3 _ _) _ _) _ _) _ _) _ _) _ _ = Z6
            have tz : Turn (At1 w.heap.size) W3 Z6 := by rw [← hZ]; exact zero6_turn _ _
            have bz1 : Z6.heap[w.heap.size + 1]? = some (.cells #[.nilIface] 46) := (tz.block _ (heap_lt hz1) (fun e => by have e : w.heap.size + 1 = w.heap.size := e; omega)).trans hz1
            have cqz : Z6.cell? ⟨q, 0, none⟩ = some (.int .i64 n) := (World.cell?_of_block (tz.block q (World.block_lt_of_cell? W3 _ hS) (fun e => n0 e))).trans hS
            have C1z : ∀ o, (Z6.alloc o).cell? ⟨w.heap.size + 1, 0, none⟩ = some .nilIface := fun o => cell_turn (alloc1 rfl).2 (cell_blk bz1)
            have F1z : ∀ o, (Z6.alloc o).frozen? ⟨w.heap.size + 1, 0, none⟩ = false := fun o => frozen_blk (((alloc1 (w := Z6) (a := o) rfl).2.block _ (heap_lt bz1) (fun h => h)).trans bz1)
            have CQz : ∀ o, (Z6.alloc o).cell? ⟨q, 0, none⟩ = _ := fun o => cell_turn (alloc1 rfl).2 cqz
            have hszz : Z6.heap.size = W3.heap.size := by rw [← hZ]; exact zero6_size _ _
            have HZZ := Lib.hid hZ
            have HSZ := Lib.hid hszz
            clear hZ hszz tz bz1
            refine hK _ _ cqz ?_
            clear hK K
            try simp only [Act.put, List.setIfInBounds_toArray, List.set_cons_succ, List.set_cons_zero]
            refine OrdersR.one 4 (by kernel_rfl) rfl (by kernel_rfl) (fun K hK => ?_)
            go_simp
            refine hK _ _ (CQz _) ?_
            clear hK K
            try simp only [Act.put, List.setIfInBounds_toArray, List.set_cons_succ, List.set_cons_zero]
            refine OrdersR.take 5 ?_ rfl (by kernel_rfl) (by kernel_rfl) (by kernel_rfl) (by kernel_rfl) (fun _ _ _ h => h) (Or.inl ⟨by kernel_rfl, ?_⟩) (fun _ => rfl) (CQz _) ?_
            rotate_left 1
            · intro u hu; go_simp; first | done | with_reducible rfl
            try simp only [Act.put, List.setIfInBounds_toArray, List.set_cons_succ, List.set_cons_zero]
            refine OrdersR.one 7 (by kernel_rfl) rfl (by kernel_rfl) (fun K hK => ?_)
            go_simp
            refine hK _ _ ?_ ?_
            · show World.cell? _ ⟨q, 0, none⟩ = _; go_simp
            clear hK K
            try simp only [Act.put, List.setIfInBounds_toArray, List.set_cons_succ, List.set_cons_zero]
            refine OrdersR.done (by kernel_rfl) ?_
            gi_wp2_with fail
            rw [HSZ.out, ← HZZ.out]
            exact perr_b HGO.out KZ.out hz0 hz1 hz6 LZ.out
        | ok pp =>
          rw [hx] at hp
          obtain ⟨⟨rfl, v', hat, hvb⟩, _⟩ := hp
          refine hK _ _ cp3 ?_
          clear hK K
          try simp only [Act.put, List.setIfInBounds_toArray, List.set_cons_succ, List.set_cons_zero]
          have hzq := (T3.out.block _ (heap_lt HH.out.bq) NVQ.out).trans HH.out.bq
          have cq3 := cell_blk (o := 0) hzq
          have fq3 := frozen_blk (o := 0) hzq
          simp only [List.getElem?_toArray, List.getElem?_cons_zero] at cq3
          have HEND := Lib.hid (pnorm_end (x := x) HH.out HTA.out (HGL.out.trans (by rw [hx])) hx hat (hvb.imp id (fun ⟨k, h1, h2⟩ => ⟨k, h1, Nat.le_trans HT2.out.size h2⟩)) T3.out ER.out EP.out EQ.out EX.out)
          clear hx hat hvb hzq d0 d1 d2 d3 d4 d5 e0 e1 e2 e3 e4 e5 c1 f1 cq fq k6a cpa k6 cp k62 cp2 eF
          refine OrdersR.one 7 (by kernel_rfl) rfl (by kernel_rfl) (fun K hK => ?_)
          go_simp
          refine hK _ _ cp3 ?_
          clear hK K
          try simp only [Act.put, List.setIfInBounds_toArray, List.set_cons_succ, List.set_cons_zero]
          refine OrdersR.done (by kernel_rfl) ?_
          gi_wp2_with fail
          exact HEND.out _
      · go_simp
        refine ⟨trivial, (CallsIn.inRound l (callsIn_wide.2 (HSP.out W'.drew ((Turn.refl _ _).drew)))).mono ?_⟩
        rintro e W2 ⟨wv, rfl, hsl, hwb, ht2⟩
        have ht2 : Turn Nn W' W2 := ((Turn.refl Nn W').drew).trans ht2
        have cp2 := cell_turn ht2 cp
        have k62 := cell_turn ht2 k6
        have HN := Lib.hid (HNX.out W2 wv ht2 hsl (fun ad n c e => by have := hwb ad n c e; exact this))
        have HT2 := Lib.hid ht2
        refine hK _ _ cp2 ?_
        clear hK K hsl hwb ht2
        try simp only [Act.put, List.setIfInBounds_toArray, List.set_cons_succ, List.set_cons_zero]
        refine OrdersR.one 3 (by kernel_rfl) rfl (by kernel_rfl) (fun K hK => ?_)
        go_simp
        refine hK _ _ cp2 ?_
        clear hK K
        try simp only [Act.put, List.setIfInBounds_toArray, List.set_cons_succ, List.set_cons_zero]
        refine OrdersR.one 6 (by kernel_rfl) rfl (by kernel_rfl) (fun K hK => ?_)
        go_simp
        refine ⟨trivial, (CallsIn.inRound l (callsIn_wide.2 HN.out)).mono ?_⟩
        rintro e W3 hp
        have hp2 := hp.2
        have T3 := Lib.hid (HT2.out.wide.trans hp2)
        have cp3 : W3.cell? ⟨p, 0, none⟩ = some (.pointer (some ⟨r, 0, none⟩)) := (World.cell?_of_block (hp2.block p (World.block_lt_of_cell? W2 _ cp2) PNV.out)).trans cp2
        clear hp2
        cases hx : stepS ph s (spW a) with
        | error c =>
          rw [hx] at hp
          obtain ⟨rfl, _⟩ := hp
          have hc0 := stepS_code hx
          have hc1 : (c != 0) = true := by rw [bne_iff_ne]; omega
          have hc2 : (c == 0) = false := by rw [beq_eq_false_iff_ne]; omega
          have HGO : Hid (parseGo t0 0 0 zeroS = .error (c, n)) := Lib.hid (by rw [HGL.out, hx])
          refine hK _ _ cp3 ?_
          clear hK K hx hc0
          try simp only [Act.put, List.setIfInBounds_toArray, List.set_cons_succ, List.set_cons_zero]
          have hz0 := (T3.out.block _ (heap_lt HH.out.b0) NV0.out).trans HH.out.b0
          have hz1 := (T3.out.block _ (heap_lt HH.out.b1) NV1.out).trans HH.out.b1
          have hzq := (T3.out.block _ (heap_lt HH.out.bq) NVQ.out).trans HH.out.bq
          have hz6 : w.heap.size + 6 ≤ W3.heap.size := Nat.le_trans HH.out.room T3.out.size
          have KZ := Lib.hid (keeps_rs HH.out.at_ T3.out)
          have LZ := Lib.hid (T3.out.under HH.out.low (rs_low HH.out) HH.out.low.size)
          clear d0 d1 d2 d3 d4 d5 e0 e1 e2 e3 e4 e5 c1 f1 cq fq k6a cpa k6 cp k62 cp2 eF
          have d0 := cell_blk (o := 0) hz0
          have e0 := frozen_blk (o := 0) hz0
          have d1 := cell_blk (o := 1) hz0
          have e1 := frozen_blk (o := 1) hz0
          have d2 := cell_blk (o := 2) hz0
          have e2 := frozen_blk (o := 2) hz0
          have d3 := cell_blk (o := 3) hz0
          have e3 := frozen_blk (o := 3) hz0
          have d4 := cell_blk (o := 4) hz0
          have e4 := frozen_blk (o := 4) hz0
          have d5 := cell_blk (o := 5) hz0
          have e5 := frozen_blk (o := 5) hz0
          have c1 := cell_blk (o := 0) hz1
          have f1 := frozen_blk (o := 0) hz1
          have cq := cell_blk (o := 0) hzq
          simp only [sZero, List.getElem?_toArray, List.getElem?_cons_succ, List.getElem?_cons_zero] at cq c1 d0 d1 d2 d3 d4 d5
          have D0 : ∀ o, (W3.alloc o).cell? ⟨w.heap.size, 0, none⟩ = _ := fun o => cell_turn (alloc1 rfl).2 d0
          have E0 : ∀ o, (W3.alloc o).frozen? ⟨w.heap.size, 0, none⟩ = false := fun o => frozen_blk (((alloc1 (w := W3) (a := o) rfl).2.block _ (heap_lt hz0) (fun h => h)).trans hz0)
          have D1 : ∀ o, (W3.alloc o).cell? ⟨w.heap.size, 1, none⟩ = _ := fun o => cell_turn (alloc1 rfl).2 d1
          have E1 : ∀ o, (W3.alloc o).frozen? ⟨w.heap.size, 1, none⟩ = false := fun o => frozen_blk (((alloc1 (w := W3) (a := o) rfl).2.block _ (heap_lt hz0) (fun h => h)).trans hz0)
          have D2 : ∀ o, (W3.alloc o).cell? ⟨w.heap.size, 2, none⟩ = _ := fun o => cell_turn (alloc1 rfl).2 d2
          have E2 : ∀ o, (W3.alloc o).frozen? ⟨w.heap.size, 2, none⟩ = false := fun o => frozen_blk (((alloc1 (w := W3) (a := o) rfl).2.block _ (heap_lt hz0) (fun h => h)).trans hz0)
          have D3 : ∀ o, (W3.alloc o).cell? ⟨w.heap.size, 3, none⟩ = _ := fun o => cell_turn (alloc1 rfl).2 d3
          have E3 : ∀ o, (W3.alloc o).frozen? ⟨w.heap.size, 3, none⟩ = false := fun o => frozen_blk (((alloc1 (w := W3) (a := o) rfl).2.block _ (heap_lt hz0) (fun h => h)).trans hz0)
          have D4 : ∀ o, (W3.alloc o).cell? ⟨w.heap.size, 4, none⟩ = _ := fun o => cell_turn (alloc1 rfl).2 d4
          have E4 : ∀ o, (W3.alloc o).frozen? ⟨w.heap.size, 4, none⟩ = false := fun o => frozen_blk (((alloc1 (w := W3) (a := o) rfl).2.block _ (heap_lt hz0) (fun h => h)).trans hz0)
          have D5 : ∀ o, (W3.alloc o).cell? ⟨w.heap.size, 5, none⟩ = _ := fun o => cell_turn (alloc1 rfl).2 d5
          have E5 : ∀ o, (W3.alloc o).frozen? ⟨w.heap.size, 5, none⟩ = false := fun o => frozen_blk (((alloc1 (w := W3) (a := o) rfl).2.block _ (heap_lt hz0) (fun h => h)).trans hz0)
          have C1 : ∀ o, (W3.alloc o).cell? ⟨w.heap.size + 1, 0, none⟩ = _ := fun o => cell_turn (alloc1 rfl).2 c1
          have F1 : ∀ o, (W3.alloc o).frozen? ⟨w.heap.size + 1, 0, none⟩ = false := fun o => frozen_blk (((alloc1 (w := W3) (a := o) rfl).2.block _ (heap_lt hz1) (fun h => h)).trans hz1)
          have CQ : ∀ o, (W3.alloc o).cell? ⟨q, 0, none⟩ = _ := fun o => cell_turn (alloc1 rfl).2 cq
          refine OrdersR.one 7 (by kernel_rfl) rfl (by kernel_rfl) (fun K hK => ?_)
          go_simp
          refine hK _ _ cp3 ?_
          clear hK K
          try simp only [Act.put, List.setIfInBounds_toArray, List.set_cons_succ, List.set_cons_zero]
          refine OrdersR.done (by kernel_rfl) ?_
          gi_wp2_with fail
          refine wpIn_regionR (fun u => u.cell? ⟨q, 0, none⟩ = some (.int .i64 n)) (by kernel_rfl) ?_
          have hS : (fun u : World => u.cell? ⟨q, 0, none⟩ = some (.int .i64 n)) W3.drew := cq
          refine OrdersR.take 0 ?_ rfl (by kernel_rfl) (by kernel_rfl) (by kernel_rfl) (by kernel_rfl) (fun _ _ _ h => h) (Or.inl ⟨by kernel_rfl, ?_⟩) (fun _ => rfl) hS ?_
          rotate_left 1
          · intro u hu; go_simp; first | done | with_reducible rfl
          try simp only [Act.put, List.setIfInBounds_toArray, List.set_cons_succ, List.set_cons_zero]
          refine OrdersR.take 1 ?_ rfl (by kernel_rfl) (by kernel_rfl) (by kernel_rfl) (by kernel_rfl) (fun _ _ _ h => h) (Or.inl ⟨by kernel_rfl, ?_⟩) (fun _ => rfl) hS ?_
          rotate_left 1
          · intro u hu; go_simp; first | done | with_reducible rfl
          try simp only [Act.put, List.setIfInBounds_toArray, List.set_cons_succ, List.set_cons_zero]
          refine OrdersR.take 2 ?_ rfl (by kernel_rfl) (by kernel_rfl) (by kernel_rfl) (by kernel_rfl) (fun _ _ _ h => h) (Or.inl ⟨by kernel_rfl, ?_⟩) (fun _ => rfl) hS ?_
          rotate_left 1
          · intro u hu; go_simp; first | done | with_reducible rfl
          try simp only [Act.put, List.setIfInBounds_toArray, List.set_cons_succ, List.set_cons_zero]
          refine OrdersR.take 3 ?_ rfl (by kernel_rfl) (by kernel_rfl) (by kernel_rfl) (by kernel_rfl) (fun _ _ _ h => h) (Or.inl ⟨by kernel_rfl, ?_⟩) (fun _ => rfl) hS ?_
          rotate_left 1
          · intro u hu; go_simp; first | done | with_reducible rfl
          try simp only [Act.put, List.setIfInBounds_toArray, List.set_cons_succ, List.set_cons_zero]
          refine OrdersR.pair 4 6 (by kernel_rfl) rfl rfl (by kernel_rfl) (by kernel_rfl) (fun K hK => ?_) (fun K hK => ?_)
          · go_simp
            refine hK _ _ (cell_turn (alloc1 (w := W3.drew) rfl).2 hS) ?_
            clear hK K
            try simp only [Act.put, List.setIfInBounds_toArray, List.set_cons_succ, List.set_cons_zero]
            refine OrdersR.take 5 ?_ rfl (by kernel_rfl) (by kernel_rfl) (by kernel_rfl) (by kernel_rfl) (fun _ _ _ h => h) (Or.inl ⟨by kernel_rfl, ?_⟩) (fun _ => rfl) (cell_turn (alloc1 (w := W3.drew) rfl).2 hS) ?_
            rotate_left 1
            · intro u hu; go_simp; first | done | with_reducible rfl
            try simp only [Act.put, List.setIfInBounds_toArray, List.set_cons_succ, List.set_cons_zero]
            refine OrdersR.one 6 (by kernel_rfl) rfl (by kernel_rfl) (fun K hK => ?_)
            go_simp
            refine hK _ _ ?_ ?_
            · show World.cell? _ ⟨q, 0, none⟩ = _; go_simp
            clear hK K
            try simp only [Act.put, List.setIfInBounds_toArray, List.set_cons_succ, List.set_cons_zero]
            refine OrdersR.one 7 (by kernel_rfl) rfl (by kernel_rfl) (fun K hK => ?_)
            go_simp
            refine hK _ _ ?_ ?_
            · show World.cell? _ ⟨q, 0, none⟩ = _; go_simp
            clear hK K
            try simp only [Act.put, List.setIfInBounds_toArray, List.set_cons_succ, List.set_cons_zero]
            refine OrdersR.done (by kernel_rfl) ?_
            gi_wp2_with fail
            exact perr_a HGO.out KZ.out hz0 hz1 hz6 LZ.out
          · go_simp
            generalize hZ : World.setCell (World.setCell (World.setCell (World.setCell (World.setCell (World.setCell W3 _ _) _ _) _ _) _ _) _ _) _ _ = Z6
            have tz : Turn (At1 w.heap.size) W3 Z6 := by rw [← hZ]; exact zero6_turn _ _
            have bz1 : Z6.heap[w.heap.size + 1]? = some (.cells #[.nilIface] 46) := (tz.block _ (heap_lt hz1) (fun e => by have e : w.heap.size + 1 = w.heap.size := e; omega)).trans hz1
            have cqz : Z6.cell? ⟨q, 0, none⟩ = some (.int .i64 n) := (World.cell?_of_block (tz.block q (World.block_lt_of_cell? W3 _ hS) (fun e => n0 e))).trans hS
            have C1z : ∀ o, (Z6.alloc o).cell? ⟨w.heap.size + 1, 0, none⟩ = some .nilIface := fun o => cell_turn (alloc1 rfl).2 (cell_blk bz1)
            have F1z : ∀ o, (Z6.alloc o).frozen? ⟨w.heap.size + 1, 0, none⟩ = false := fun o => frozen_blk (((alloc1 (w := Z6) (a := o) rfl).2.block _ (heap_lt bz1) (fun h => h)).trans bz1)
            have CQz : ∀ o, (Z6.alloc o).cell? ⟨q, 0, none⟩ = _ := fun o => cell_turn (alloc1 rfl).2 cqz
            have hszz : Z6.heap.size = W3.heap.size := by rw [← hZ]; exact zero6_size _ _
            have HZZ := Lib.hid hZ
            have HSZ := Lib.hid hszz
            clear hZ hszz tz bz1
            refine hK _ _ cqz ?_
            clear hK K
            try simp only [Act.put, List.setIfInBounds_toArray, List.set_cons_succ, List.set_cons_zero]
            refine OrdersR.one 4 (by kernel_rfl) rfl (by kernel_rfl) (fun K hK => ?_)
            go_simp
            refine hK _ _ (CQz _) ?_
            clear hK K
            try simp only [Act.put, List.setIfInBounds_toArray, List.set_cons_succ, List.set_cons_zero]
            refine OrdersR.take 5 ?_ rfl (by kernel_rfl) (by kernel_rfl) (by kernel_rfl) (by kernel_rfl) (fun _ _ _ h => h) (Or.inl ⟨by kernel_rfl, ?_⟩) (fun _ => rfl) (CQz _) ?_
            rotate_left 1
            · intro u hu; go_simp; first | done | with_reducible rfl
            try simp only [Act.put, List.setIfInBounds_toArray, List.set_cons_succ, List.set_cons_zero]
            refine OrdersR.one 7 (by kernel_rfl) rfl (by kernel_rfl) (fun K hK => ?_)
            go_simp
            refine hK _ _ ?_ ?_
            · show World.cell? _ ⟨q, 0, none⟩ = _; go_simp
            clear hK K
            try simp only [Act.put, List.setIfInBounds_toArray, List.set_cons_succ, List.set_cons_zero]
            refine OrdersR.done (by kernel_rfl) ?_
            gi_wp2_with fail
            rw [HSZ.out, ← HZZ.out]
            exact perr_b HGO.out KZ.out hz0 hz1 hz6 LZ.out
        | ok pp =>
          rw [hx] at hp
          obtain ⟨⟨rfl, v', hat, hvb⟩, _⟩ := hp
          refine hK _ _ cp3 ?_
          clear hK K
          try simp only [Act.put, List.setIfInBounds_toArray, List.set_cons_succ, List.set_cons_zero]
          have hzq := (T3.out.block _ (heap_lt HH.out.bq) NVQ.out).trans HH.out.bq
          have cq3 := cell_blk (o := 0) hzq
          have fq3 := frozen_blk (o := 0) hzq
          simp only [List.getElem?_toArray, List.getElem?_cons_zero] at cq3
          have HEND := Lib.hid (pnorm_end (x := x) HH.out HTA.out (HGL.out.trans (by rw [hx])) hx hat (hvb.imp id (fun ⟨k, h1, h2⟩ => ⟨k, h1, Nat.le_trans HT2.out.size h2⟩)) T3.out ER.out EP.out EQ.out EX.out)
          clear hx hat hvb hzq d0 d1 d2 d3 d4 d5 e0 e1 e2 e3 e4 e5 c1 f1 cq fq k6a cpa k6 cp k62 cp2 eF
          refine OrdersR.one 7 (by kernel_rfl) rfl (by kernel_rfl) (fun K hK => ?_)
          go_simp
          refine hK _ _ cp3 ?_
          clear hK K
          try simp only [Act.put, List.setIfInBounds_toArray, List.set_cons_succ, List.set_cons_zero]
          refine OrdersR.done (by kernel_rfl) ?_
          gi_wp2_with fail
          exact HEND.out _
  case done =>
    rintro D W hD ⟨n, ph, s, v, h⟩ hK
    have cq := cell_blk (o := 0) h.bq
    have cp := cell_blk (o := 0) h.bp
    have c1 := cell_blk (o := 0) h.b1
    have f1 := frozen_blk (o := 0) h.b1
    have d0 := cell_blk (o := 0) h.b0
    have d1 := cell_blk (o := 1) h.b0
    have d2 := cell_blk (o := 2) h.b0
    have d3 := cell_blk (o := 3) h.b0
    have d4 := cell_blk (o := 4) h.b0
    have d5 := cell_blk (o := 5) h.b0
    have e0 := frozen_blk (o := 0) h.b0
    have e1 := frozen_blk (o := 1) h.b0
    have e2 := frozen_blk (o := 2) h.b0
    have e3 := frozen_blk (o := 3) h.b0
    have e4 := frozen_blk (o := 4) h.b0
    have e5 := frozen_blk (o := 5) h.b0
    simp only [sZero, List.getElem?_toArray, List.getElem?_cons_succ, List.getElem?_cons_zero] at cq cp c1 d0 d1 d2 d3 d4 d5
    have hnb : n ≤ 1000000 := by have := h.len; omega
    by_cases hn : n = 0
    · have ht0 : t0 = [] := (h.start hn).symm
      subst hn
      have cq : W.cell? ⟨q, 0, none⟩ = some (.int .i64 0) := cq
      have HH := Lib.hid h
      have HK := Lib.hid hK
      have HT0 := Lib.hid ht0
      have D0 : ∀ o, (W.alloc o).cell? ⟨w.heap.size, 0, none⟩ = _ := fun o => cell_turn (alloc1 rfl).2 d0
      have E0 : ∀ o, (W.alloc o).frozen? ⟨w.heap.size, 0, none⟩ = false := fun o => frozen_blk (((alloc1 (w := W) (a := o) rfl).2.block _ (heap_lt h.b0) (fun h => h)).trans h.b0)
      have D1 : ∀ o, (W.alloc o).cell? ⟨w.heap.size, 1, none⟩ = _ := fun o => cell_turn (alloc1 rfl).2 d1
      have E1 : ∀ o, (W.alloc o).frozen? ⟨w.heap.size, 1, none⟩ = false := fun o => frozen_blk (((alloc1 (w := W) (a := o) rfl).2.block _ (heap_lt h.b0) (fun h => h)).trans h.b0)
      have D2 : ∀ o, (W.alloc o).cell? ⟨w.heap.size, 2, none⟩ = _ := fun o => cell_turn (alloc1 rfl).2 d2
      have E2 : ∀ o, (W.alloc o).frozen? ⟨w.heap.size, 2, none⟩ = false := fun o => frozen_blk (((alloc1 (w := W) (a := o) rfl).2.block _ (heap_lt h.b0) (fun h => h)).trans h.b0)
      have D3 : ∀ o, (W.alloc o).cell? ⟨w.heap.size, 3, none⟩ = _ := fun o => cell_turn (alloc1 rfl).2 d3
      have E3 : ∀ o, (W.alloc o).frozen? ⟨w.heap.size, 3, none⟩ = false := fun o => frozen_blk (((alloc1 (w := W) (a := o) rfl).2.block _ (heap_lt h.b0) (fun h => h)).trans h.b0)
      have D4 : ∀ o, (W.alloc o).cell? ⟨w.heap.size, 4, none⟩ = _ := fun o => cell_turn (alloc1 rfl).2 d4
      have E4 : ∀ o, (W.alloc o).frozen? ⟨w.heap.size, 4, none⟩ = false := fun o => frozen_blk (((alloc1 (w := W) (a := o) rfl).2.block _ (heap_lt h.b0) (fun h => h)).trans h.b0)
      have D5 : ∀ o, (W.alloc o).cell? ⟨w.heap.size, 5, none⟩ = _ := fun o => cell_turn (alloc1 rfl).2 d5
      have E5 : ∀ o, (W.alloc o).frozen? ⟨w.heap.size, 5, none⟩ = false := fun o => frozen_blk (((alloc1 (w := W) (a := o) rfl).2.block _ (heap_lt h.b0) (fun h => h)).trans h.b0)
      have C1 : ∀ o, (W.alloc o).cell? ⟨w.heap.size + 1, 0, none⟩ = _ := fun o => cell_turn (alloc1 rfl).2 c1
      have F1 : ∀ o, (W.alloc o).frozen? ⟨w.heap.size + 1, 0, none⟩ = false := fun o => frozen_blk (((alloc1 (w := W) (a := o) rfl).2.block _ (heap_lt h.b1) (fun h => h)).trans h.b1)
      clear h hK ht0
      gi_wp2_with fail
      exact leave_err_a (c := 5) (n := 0) HK.out (by rw [HT0.out]; rfl) HH.out.b0 HH.out.b1 HH.out.low HH.out.room (by omega) rfl rfl
    · have hn2 : ((n : Int) == 0) = false := by rw [beq_eq_false_iff_ne]; omega
      obtain ⟨pv, nv, cv, rfl⟩ : ∃ pv nv cv, v = .slice pv nv cv := by
        rcases h.at_.own.2 with ⟨e, _⟩ | ⟨_, _, _, e, _⟩
        · exact ⟨_, _, _, e⟩
        · exact ⟨_, _, _, e⟩
      have g0 := cell_blk (o := 0) h.at_.blk
      have g1 := cell_blk (o := 1) h.at_.blk
      have g2 := cell_blk (o := 2) h.at_.blk
      have g3 := cell_blk (o := 3) h.at_.blk
      have g4 := cell_blk (o := 4) h.at_.blk
      have g5 := cell_blk (o := 5) h.at_.blk
      simp only [rcells, List.getElem?_toArray, List.getElem?_cons_succ, List.getElem?_cons_zero] at g0 g1 g2 g3 g4 g5
      have HH := Lib.hid h
      have HK := Lib.hid hK
      have HN0 := Lib.hid hn
      clear h hK hn
      gi_wp2_with fail
      have hne : t0 ≠ [] := by
        rintro rfl
        have h1 := HH.out.len
        have h2 := HN0.out
        simp at h1
        exact h2 h1
      have hgo := HH.out.go
      rw [parseGo_nil] at hgo
      have HP : parseD t0 = .ok s := by unfold parseD; rw [if_neg hne, hgo]
      refine leave_ok_a HK.out HP HH.out (by omega) ?_ ?_
      · rfl
      · rfl
  case stop =>
    rintro D W hD ⟨c, n, f, h1, h2, h3, h4, h5, h6⟩ hK
    have hne : t0 ≠ [] := by
      rintro rfl
      rw [parseGo_nil] at h1
      cases h1
    gi_wp2_with fail
    exact leave_err hK (by unfold parseD; rw [if_neg hne, h1]) h2 h3 h4 (by omega) h6 (by omega) rfl rfl

/-- The program's parser. -/
theorem parse_big (t0 : Bs) {w : World} (hl : Laid w) (hm : Mx w) (ht : t0.length ≤ 799998) :
    Calls Tryz.prog 14 #[.string (BT t0)] w (ParsePost w t0) := callsIn_wide.1 (parse_in t0 w hl hm ht)
theorem parse_any (t0 : Bs) {w : World} (hl : Laid w) (hm : Mx w) (ht : t0.length ≤ 89998) :
    Calls Tryz.prog 14 #[.string (BT t0)] w (ParsePost w t0) := parse_big t0 hl hm (by omega)
end Go.Proofs.YtjnllclpdllceaaGreatDoor
