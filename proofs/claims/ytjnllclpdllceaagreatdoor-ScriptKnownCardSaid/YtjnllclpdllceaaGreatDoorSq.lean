/- Plain lists: scripts as texts. -/
import Derived.Test.YtjnllclpdllceaaGreatDoorSp
namespace Go.Proofs.YtjnllclpdllceaaGreatDoor
set_option linter.unusedSimpArgs false
set_option linter.unusedVariables false
open Go.Lib

abbrev Bs := List UInt8

structure TurnD where
  kind : Int
  slot : Int
  times : Int
  deriving DecidableEq

structure ScriptD where
  chans : Int
  actors : Int
  cap : Int
  twin : Bool
  mod : Bs
  turns : List TurnD

def turnOk (t : TurnD) : Bool :=
  decide (t.kind = 0 ∧ 0 ≤ t.slot ∧ t.slot ≤ 99 ∧ 1 ≤ t.times ∧ t.times ≤ 1000) || decide (t.kind = 1 ∧ t.slot = 0 ∧ 1 ≤ t.times ∧ t.times ≤ 1000) || decide ((t.kind = 2 ∨ t.kind = 3) ∧ t.slot = 0 ∧ t.times = 0)
def configOk (a b c : Int) : Bool := decide (1 ≤ a ∧ a ≤ 64 ∧ 1 ≤ b ∧ b ≤ 32 ∧ 1 ≤ c ∧ c ≤ 16)

def wMachine : Bs := [109, 97, 99, 104, 105, 110, 101]
def wTwin : Bs := [116, 119, 105, 110]
def wBytes : Bs := [98, 121, 116, 101, 115]
def wPick : Bs := [112, 105, 99, 107]
def wRound : Bs := [114, 111, 117, 110, 100]
def wShow : Bs := [115, 104, 111, 119]
def wRows : Bs := [114, 111, 119, 115]

def hx (n : Nat) : UInt8 := if n < 10 then UInt8.ofNat (48 + n) else UInt8.ofNat (87 + n)
def hx2 (b : UInt8) : Bs := [hx (b.toNat / 16), hx (b.toNat % 16)]

/-- What Print writes of the module, from the i-th byte on. -/
def bytesT : Nat → Bs → Bs
  | _, [] => []
  | i, b :: r => (if i % 24 = 0 then 10 :: (wBytes ++ [32]) else []) ++ hx2 b ++ bytesT (i + 1) r

def lineT (t : TurnD) : Bs :=
  if t.kind = 0 then wPick ++ 32 :: itoa t.slot ++ 32 :: itoa t.times
  else if t.kind = 1 then wRound ++ 32 :: itoa t.times
  else if t.kind = 2 then wShow else wRows

def headT (s : ScriptD) : Bs := wMachine ++ 32 :: itoa s.chans ++ 32 :: itoa s.actors ++ 32 :: itoa s.cap ++ (if s.twin then 32 :: wTwin else [])
def textT (s : ScriptD) : Bs := headT s ++ bytesT 0 s.mod ++ (s.turns.flatMap fun t => 10 :: lineT t) ++ [10]

/-- Print's answer. -/
def printD (s : ScriptD) : Bs × Int :=
  if configOk s.chans s.actors s.cap = false ∨ s.turns.any (fun t => !turnOk t) = true then ([], 2)
  else if 65536 < s.mod.length ∨ 4096 < s.turns.length then ([], 4)
  else (textT s, 0)

/-- A line's words. -/
def spW : Bs → List Bs
  | [] => [[]]
  | x :: r => if x = 32 then [] :: spW r else match spW r with
    | [] => [[x]]
    | w :: ws => (x :: w) :: ws

theorem spW_ne : ∀ l, spW l ≠ []
  | [] => by simp [spW]
  | x :: r => by
    unfold spW
    split
    · simp
    · split <;> simp

theorem spW_word : ∀ (a b : Bs), (∀ c ∈ a, c ≠ 32) → spW (a ++ 32 :: b) = a :: spW b
  | [], b, _ => by simp [spW]
  | x :: r, b, h => by
    have hx : x ≠ 32 := h x (List.mem_cons_self)
    have := spW_word r b (fun c hc => h c (List.mem_cons_of_mem _ hc))
    simp only [List.cons_append, spW, hx, if_false, this]

theorem spW_last : ∀ (a : Bs), (∀ c ∈ a, c ≠ 32) → spW a = [a]
  | [], _ => by simp [spW]
  | x :: r, h => by
    have hx : x ≠ 32 := h x (List.mem_cons_self)
    have := spW_last r (fun c hc => h c (List.mem_cons_of_mem _ hc))
    simp only [spW, hx, if_false, this]

/-- The first line, and what stands behind its end. -/
def cutL : Bs → Option (Bs × Bs)
  | [] => none
  | x :: r => if x = 10 then some ([], r) else (cutL r).map fun p => (x :: p.1, p.2)

theorem cutL_line : ∀ (a b : Bs), (∀ c ∈ a, c ≠ 10) → cutL (a ++ 10 :: b) = some (a, b)
  | [], b, _ => by simp [cutL]
  | x :: r, b, h => by
    have hx : x ≠ 10 := h x (List.mem_cons_self)
    have := cutL_line r b (fun c hc => h c (List.mem_cons_of_mem _ hc))
    simp only [List.cons_append, cutL, hx, if_false, this, Option.map_some]

theorem cutL_some : ∀ {l a b : Bs}, cutL l = some (a, b) → l = a ++ 10 :: b ∧ ∀ c ∈ a, c ≠ 10
  | [], a, b, h => by simp [cutL] at h
  | x :: r, a, b, h => by
    unfold cutL at h
    split at h
    · rename_i e
      simp only [Option.some.injEq, Prod.mk.injEq] at h
      obtain ⟨rfl, rfl⟩ := h
      subst e
      exact ⟨rfl, by simp⟩
    · rename_i hx
      cases hc : cutL r with
      | none => rw [hc] at h; simp at h
      | some p =>
        rw [hc] at h
        simp only [Option.map_some, Option.some.injEq, Prod.mk.injEq] at h
        obtain ⟨rfl, rfl⟩ := h
        obtain ⟨h1, h2⟩ := cutL_some (a := p.1) (b := p.2) hc
        refine ⟨by rw [h1]; rfl, fun c hc => ?_⟩
        rcases List.mem_cons.1 hc with rfl | hc
        · exact hx
        · exact h2 c hc

theorem cutL_short {l a b : Bs} (h : cutL l = some (a, b)) : b.length < l.length := by
  rw [(cutL_some h).1]; simp; omega

def numsL : List Bs → Option (List Nat)
  | [] => some []
  | w :: ws => match numL w with
    | none => none
    | some n => (numsL ws).map (n :: ·)

def half (c : UInt8) : Option Nat := if 48 ≤ c.toNat ∧ c.toNat ≤ 57 then some (c.toNat - 48) else if 97 ≤ c.toNat ∧ c.toNat ≤ 102 then some (c.toNat - 87) else none

def unhexL : Bs → Option Bs
  | [] => some []
  | [_] => none
  | x :: y :: r => match half x, half y with
    | some a, some b => (unhexL r).map (UInt8.ofNat (16 * a + b) :: ·)
    | _, _ => none

def addTurn (s : ScriptD) (t : TurnD) : Except Int ScriptD :=
  if turnOk t = false then .error 2 else if 4096 ≤ s.turns.length then .error 4 else .ok { s with turns := s.turns ++ [t] }

def turnS (s : ScriptD) (w : List Bs) : Except Int ScriptD := match w with
  | [] => .error 5
  | k :: args => match numsL args with
    | none => .error 5
    | some l =>
      if k = wPick then (match l with | [a, b] => addTurn s ⟨0, a, b⟩ | _ => .error 5)
      else if k = wRound then (match l with | [b] => addTurn s ⟨1, 0, b⟩ | _ => .error 5)
      else if k = wShow then (match l with | [] => addTurn s ⟨2, 0, 0⟩ | _ => .error 5)
      else if k = wRows then (match l with | [] => addTurn s ⟨3, 0, 0⟩ | _ => .error 5)
      else .error 5

def bytesS (s : ScriptD) (w : List Bs) : Except Int ScriptD := match w with
  | [_, d] =>
    if s.mod.length % 24 ≠ 0 ∨ d.length = 0 ∨ d.length % 2 = 1 ∨ 48 < d.length then .error 5
    else match unhexL d with
      | none => .error 5
      | some b => if 65536 < s.mod.length + b.length then .error 4 else .ok { s with mod := s.mod ++ b }
  | _ => .error 5

def machineS (s : ScriptD) (w : List Bs) : Except Int ScriptD :=
  let tw := decide (w.length = 5 ∧ w[4]? = some wTwin)
  let v := if tw then w.take 4 else w
  match v with
  | [] => .error 5
  | k :: args => match numsL args with
    | some [a, b, c] => if k = wMachine then (if configOk a b c then .ok { s with chans := a, actors := b, cap := c, twin := tw } else .error 2) else .error 5
    | _ => .error 5

/-- One line: the state's phase is 0 (machine), 1 (bytes), 2 (turns). -/
def stepS (ph : Nat) (s : ScriptD) (w : List Bs) : Except Int (Nat × ScriptD) :=
  if ph = 0 then (machineS s w).map fun s => (1, s)
  else if ph = 1 ∧ w.head? = some wBytes then (bytesS s w).map fun s => (1, s)
  else (turnS s w).map fun s => (2, s)

def parseGo (text : Bs) (at_ : Nat) (ph : Nat) (s : ScriptD) : Except (Int × Nat) ScriptD :=
  if text = [] then .ok s
  else match h : cutL text with
    | none => .error (5, at_)
    | some (l, r) => match stepS ph s (spW l) with
      | .error e => .error (e, at_)
      | .ok (ph', s') => parseGo r (at_ + 1) ph' s'
termination_by text.length
decreasing_by exact cutL_short h

def zeroS : ScriptD := ⟨0, 0, 0, false, [], []⟩
/-- Parse's answer. -/
def parseD (text : Bs) : Except (Int × Nat) ScriptD := if text = [] then .error (5, 0) else parseGo text 0 0 zeroS
end Go.Proofs.YtjnllclpdllceaaGreatDoor
