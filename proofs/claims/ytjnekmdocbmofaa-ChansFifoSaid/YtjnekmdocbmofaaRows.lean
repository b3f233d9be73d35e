/-
  No cell of these rows narrows 'for every input' (looked for: loops, veiled, ifaces, maps, wideKeys, modest, calm, conditions, laid).
  DERIVED. THE GIVEN ROWS OF THIS SEAT. 8 by the template 'for every input the law returns true; each argument reads behind the call as it read before'; 0 by the template 'total and deterministic' (their statements: YtjnekmdocbmofaaTotals.lean).
  GIVEN WITH THE SEED: the statements are not yours to turn. If you find one false, say at which input.
  Laid BY PROGRAM, IN A SANDBOX (cutbox-rows.mjs): the forced cells as the released guide's own fill.sh prints them over the translation 4da47921c77bd8aa… (all of the seat's roots in one cut). By AI agents, Wed Nov 11 2026. No macro, syntax, notation, axiom, sorry.
-/
import Derived.Test.YtjnekmdocbmofaaChecked
import GoSem.Claim
import GoSem.ClaimJoined
import GoSem.ClaimMapViews
import Derived.JoinedTies
import Derived.KernelRfl
namespace Go.Proofs.Ytjnekmdocbmofaa
/- THE CELL 'sum', in the pinned program and in every row, IS THE sha256 OF THE DUMP (.gsa) THAT YtjnekmdocbmofaaProg.lean LOADS. Nothing in Lean hashes anything: it is a label: what it is worth is what the hold of that sum in a sandbox is worth. -/
noncomputable def Try.pinned : Pinned := { name := "ytjnekmdocbmofaa", sum := "4da47921c77bd8aa93e04be8adecfe274d293e351e64f8be097d2b7bc816c415", checked := Try.checked }
namespace Rows
def none {H : Type} : Left H := { results := [], args := [] }

/-- 'colloquylaw20.QueueMoves': WHATEVER THE INPUT: true; the input reads as it did. -/
def queueMovesSpec : ChangeSpec := { name := "queueMoves", fn := fun _ => fun
  | [d1, d2] => { results := [.lit (.bool true)], args := [d1, d2] }
  | _ => none }
def queueMovesRow : OpenClaim := { program := "ytjnekmdocbmofaa", sum := "4da47921c77bd8aa93e04be8adecfe274d293e351e64f8be097d2b7bc816c415", func := "colloquy/colloquylaw20.QueueMoves", spec := "queueMoves", unfollowed := true, recurses := true, apart := false }
def QueueMovesSaid : Prop := queueMovesRow.holds Try.pinned (OpenSpec.ofChange queueMovesSpec)

/-- ITS FALSE NEIGHBOUR: 'it returns false'. Refute it at one input. -/
def queueMovesWrong : ChangeSpec := { name := "queueMoves", fn := fun _ => fun
  | [d1, d2] => { results := [.lit (.bool false)], args := [d1, d2] }
  | _ => none }
def QueueMovesWrongFalsely : Prop := queueMovesRow.holds Try.pinned (OpenSpec.ofChange queueMovesWrong)

/-- 'colloquylaw20.QueueLine': WHATEVER THE INPUT: true; the input reads as it did. -/
def queueLineSpec : ChangeSpec := { name := "queueLine", fn := fun _ => fun
  | [d1, d2, d3] => { results := [.lit (.bool true)], args := [d1, d2, d3] }
  | _ => none }
def queueLineRow : OpenClaim := { program := "ytjnekmdocbmofaa", sum := "4da47921c77bd8aa93e04be8adecfe274d293e351e64f8be097d2b7bc816c415", func := "colloquy/colloquylaw20.QueueLine", spec := "queueLine", unfollowed := true, recurses := true, apart := false }
def QueueLineSaid : Prop := queueLineRow.holds Try.pinned (OpenSpec.ofChange queueLineSpec)

/-- ITS FALSE NEIGHBOUR: 'it returns false'. Refute it at one input. -/
def queueLineWrong : ChangeSpec := { name := "queueLine", fn := fun _ => fun
  | [d1, d2, d3] => { results := [.lit (.bool false)], args := [d1, d2, d3] }
  | _ => none }
def QueueLineWrongFalsely : Prop := queueLineRow.holds Try.pinned (OpenSpec.ofChange queueLineWrong)

/-- 'colloquylaw20.QueueOwn': WHATEVER THE INPUT: true; the input reads as it did. -/
def queueOwnSpec : ChangeSpec := { name := "queueOwn", fn := fun _ => fun
  | [d] => { results := [.lit (.bool true)], args := [d] }
  | _ => none }
def queueOwnRow : OpenClaim := { program := "ytjnekmdocbmofaa", sum := "4da47921c77bd8aa93e04be8adecfe274d293e351e64f8be097d2b7bc816c415", func := "colloquy/colloquylaw20.QueueOwn", spec := "queueOwn", unfollowed := true, recurses := true, apart := false }
def QueueOwnSaid : Prop := queueOwnRow.holds Try.pinned (OpenSpec.ofChange queueOwnSpec)

/-- ITS FALSE NEIGHBOUR: 'it returns false'. Refute it at one input. -/
def queueOwnWrong : ChangeSpec := { name := "queueOwn", fn := fun _ => fun
  | [d] => { results := [.lit (.bool false)], args := [d] }
  | _ => none }
def QueueOwnWrongFalsely : Prop := queueOwnRow.holds Try.pinned (OpenSpec.ofChange queueOwnWrong)

/-- 'colloquylaw20.QueueKnown': WHATEVER THE INPUT: true; the input reads as it did. -/
def queueKnownSpec : ChangeSpec := { name := "queueKnown", fn := fun _ => fun
  | [] => { results := [.lit (.bool true)], args := [] }
  | _ => none }
def queueKnownRow : OpenClaim := { program := "ytjnekmdocbmofaa", sum := "4da47921c77bd8aa93e04be8adecfe274d293e351e64f8be097d2b7bc816c415", func := "colloquy/colloquylaw20.QueueKnown", spec := "queueKnown", unfollowed := true, recurses := true, apart := false }
def QueueKnownSaid : Prop := queueKnownRow.holds Try.pinned (OpenSpec.ofChange queueKnownSpec)

/-- ITS FALSE NEIGHBOUR: 'it returns false'. Refute it at one input. -/
def queueKnownWrong : ChangeSpec := { name := "queueKnown", fn := fun _ => fun
  | [] => { results := [.lit (.bool false)], args := [] }
  | _ => none }
def QueueKnownWrongFalsely : Prop := queueKnownRow.holds Try.pinned (OpenSpec.ofChange queueKnownWrong)

/-- 'colloquylaw21.ChansSlots': WHATEVER THE INPUT: true; the input reads as it did. -/
def chansSlotsSpec : ChangeSpec := { name := "chansSlots", fn := fun _ => fun
  | [d1, d2] => { results := [.lit (.bool true)], args := [d1, d2] }
  | _ => none }
def chansSlotsRow : OpenClaim := { program := "ytjnekmdocbmofaa", sum := "4da47921c77bd8aa93e04be8adecfe274d293e351e64f8be097d2b7bc816c415", func := "colloquy/colloquylaw21.ChansSlots", spec := "chansSlots", unfollowed := true, recurses := true, apart := false }
def ChansSlotsSaid : Prop := chansSlotsRow.holds Try.pinned (OpenSpec.ofChange chansSlotsSpec)

/-- ITS FALSE NEIGHBOUR: 'it returns false'. Refute it at one input. -/
def chansSlotsWrong : ChangeSpec := { name := "chansSlots", fn := fun _ => fun
  | [d1, d2] => { results := [.lit (.bool false)], args := [d1, d2] }
  | _ => none }
def ChansSlotsWrongFalsely : Prop := chansSlotsRow.holds Try.pinned (OpenSpec.ofChange chansSlotsWrong)

/-- 'colloquylaw21.ChansPlays': WHATEVER THE INPUT: true; the input reads as it did. -/
def chansPlaysSpec : ChangeSpec := { name := "chansPlays", fn := fun _ => fun
  | [d1, d2, d3] => { results := [.lit (.bool true)], args := [d1, d2, d3] }
  | _ => none }
def chansPlaysRow : OpenClaim := { program := "ytjnekmdocbmofaa", sum := "4da47921c77bd8aa93e04be8adecfe274d293e351e64f8be097d2b7bc816c415", func := "colloquy/colloquylaw21.ChansPlays", spec := "chansPlays", unfollowed := true, recurses := true, apart := false }
def ChansPlaysSaid : Prop := chansPlaysRow.holds Try.pinned (OpenSpec.ofChange chansPlaysSpec)

/-- ITS FALSE NEIGHBOUR: 'it returns false'. Refute it at one input. -/
def chansPlaysWrong : ChangeSpec := { name := "chansPlays", fn := fun _ => fun
  | [d1, d2, d3] => { results := [.lit (.bool false)], args := [d1, d2, d3] }
  | _ => none }
def ChansPlaysWrongFalsely : Prop := chansPlaysRow.holds Try.pinned (OpenSpec.ofChange chansPlaysWrong)

/-- 'colloquylaw21.ChansFifo': WHATEVER THE INPUT: true; the input reads as it did. -/
def chansFifoSpec : ChangeSpec := { name := "chansFifo", fn := fun _ => fun
  | [d1, d2, d3] => { results := [.lit (.bool true)], args := [d1, d2, d3] }
  | _ => none }
def chansFifoRow : OpenClaim := { program := "ytjnekmdocbmofaa", sum := "4da47921c77bd8aa93e04be8adecfe274d293e351e64f8be097d2b7bc816c415", func := "colloquy/colloquylaw21.ChansFifo", spec := "chansFifo", unfollowed := true, recurses := true, apart := false }
def ChansFifoSaid : Prop := chansFifoRow.holds Try.pinned (OpenSpec.ofChange chansFifoSpec)

/-- ITS FALSE NEIGHBOUR: 'it returns false'. Refute it at one input. -/
def chansFifoWrong : ChangeSpec := { name := "chansFifo", fn := fun _ => fun
  | [d1, d2, d3] => { results := [.lit (.bool false)], args := [d1, d2, d3] }
  | _ => none }
def ChansFifoWrongFalsely : Prop := chansFifoRow.holds Try.pinned (OpenSpec.ofChange chansFifoWrong)

/-- 'colloquylaw21.ChansKnown': WHATEVER THE INPUT: true; the input reads as it did. -/
def chansKnownSpec : ChangeSpec := { name := "chansKnown", fn := fun _ => fun
  | [] => { results := [.lit (.bool true)], args := [] }
  | _ => none }
def chansKnownRow : OpenClaim := { program := "ytjnekmdocbmofaa", sum := "4da47921c77bd8aa93e04be8adecfe274d293e351e64f8be097d2b7bc816c415", func := "colloquy/colloquylaw21.ChansKnown", spec := "chansKnown", unfollowed := true, recurses := true, apart := false }
def ChansKnownSaid : Prop := chansKnownRow.holds Try.pinned (OpenSpec.ofChange chansKnownSpec)

/-- ITS FALSE NEIGHBOUR: 'it returns false'. Refute it at one input. -/
def chansKnownWrong : ChangeSpec := { name := "chansKnown", fn := fun _ => fun
  | [] => { results := [.lit (.bool false)], args := [] }
  | _ => none }
def ChansKnownWrongFalsely : Prop := chansKnownRow.holds Try.pinned (OpenSpec.ofChange chansKnownWrong)

/- THE SECOND FORM. 'bulk': how many values and letters a reading holds, each counted each time it is reached (what is shared counts as often as it is met; a slice's spare places count too). A statement '..UptoSaid' is the law's where the arguments, and the package variables that the reading takes, are together of bulk at most 1048576: NARROWER than '..Said'. Prove '..Said' where nothing that the law and all that it calls make is longer than what came in: it says more and counts as full. Else prove '..UptoSaid'. A law counts once. -/
mutual
def uptoBulk {H : Type} : DataW H → Nat
  | .lit (.string bytes) => bytes.length + 1
  | .lit _ => 1
  | .nil => 1
  | .ptr d => uptoBulk d + 1
  | .slice elems spare => uptoBulkAll elems + uptoBulkAll spare + 1
  | .agg parts => uptoBulkAll parts + 1
  | .iface _ d => uptoBulk d + 1
  | .map entries => uptoBulkEntries entries + 1
  | .held _ => 1
def uptoBulkAll {H : Type} : List (DataW H) → Nat
  | [] => 0
  | d :: r => uptoBulk d + uptoBulkAll r
def uptoBulkEntries {H : Type} : List (Lit × DataW H) → Nat
  | [] => 0
  | x :: r => uptoBulkEntry x + uptoBulkEntries r
def uptoBulkEntry {H : Type} : Lit × DataW H → Nat
  | (.string bytes, d) => bytes.length + uptoBulk d + 1
  | (_, d) => uptoBulk d + 1
 end
def uptoSmall : (H : Type) → List (DataW H) → Bool := fun _ ds => decide (uptoBulkAll ds ≤ 1048576)
def OpenSpec.upto (s : _root_.Go.ChangeSpec) : _root_.Go.OpenSpec := { _root_.Go.OpenSpec.ofChange s with cond := some uptoSmall }

/-- 'colloquylaw20.QueueMoves', WHERE WHAT IT READS IS OF BULK AT MOST 1048576: true; the input reads as it did. -/
def queueMovesUptoRow : OpenClaim := { program := "ytjnekmdocbmofaa", sum := "4da47921c77bd8aa93e04be8adecfe274d293e351e64f8be097d2b7bc816c415", func := "colloquy/colloquylaw20.QueueMoves", spec := "queueMoves", unfollowed := true, recurses := true, apart := false, narrowed := true }
def QueueMovesUptoSaid : Prop := queueMovesUptoRow.holds Try.pinned (OpenSpec.upto queueMovesSpec)

/-- 'colloquylaw20.QueueLine', WHERE WHAT IT READS IS OF BULK AT MOST 1048576: true; the input reads as it did. -/
def queueLineUptoRow : OpenClaim := { program := "ytjnekmdocbmofaa", sum := "4da47921c77bd8aa93e04be8adecfe274d293e351e64f8be097d2b7bc816c415", func := "colloquy/colloquylaw20.QueueLine", spec := "queueLine", unfollowed := true, recurses := true, apart := false, narrowed := true }
def QueueLineUptoSaid : Prop := queueLineUptoRow.holds Try.pinned (OpenSpec.upto queueLineSpec)

/-- 'colloquylaw20.QueueOwn', WHERE WHAT IT READS IS OF BULK AT MOST 1048576: true; the input reads as it did. -/
def queueOwnUptoRow : OpenClaim := { program := "ytjnekmdocbmofaa", sum := "4da47921c77bd8aa93e04be8adecfe274d293e351e64f8be097d2b7bc816c415", func := "colloquy/colloquylaw20.QueueOwn", spec := "queueOwn", unfollowed := true, recurses := true, apart := false, narrowed := true }
def QueueOwnUptoSaid : Prop := queueOwnUptoRow.holds Try.pinned (OpenSpec.upto queueOwnSpec)

/-- 'colloquylaw20.QueueKnown', WHERE WHAT IT READS IS OF BULK AT MOST 1048576: true; the input reads as it did. -/
def queueKnownUptoRow : OpenClaim := { program := "ytjnekmdocbmofaa", sum := "4da47921c77bd8aa93e04be8adecfe274d293e351e64f8be097d2b7bc816c415", func := "colloquy/colloquylaw20.QueueKnown", spec := "queueKnown", unfollowed := true, recurses := true, apart := false, narrowed := true }
def QueueKnownUptoSaid : Prop := queueKnownUptoRow.holds Try.pinned (OpenSpec.upto queueKnownSpec)

/-- 'colloquylaw21.ChansSlots', WHERE WHAT IT READS IS OF BULK AT MOST 1048576: true; the input reads as it did. -/
def chansSlotsUptoRow : OpenClaim := { program := "ytjnekmdocbmofaa", sum := "4da47921c77bd8aa93e04be8adecfe274d293e351e64f8be097d2b7bc816c415", func := "colloquy/colloquylaw21.ChansSlots", spec := "chansSlots", unfollowed := true, recurses := true, apart := false, narrowed := true }
def ChansSlotsUptoSaid : Prop := chansSlotsUptoRow.holds Try.pinned (OpenSpec.upto chansSlotsSpec)

/-- 'colloquylaw21.ChansPlays', WHERE WHAT IT READS IS OF BULK AT MOST 1048576: true; the input reads as it did. -/
def chansPlaysUptoRow : OpenClaim := { program := "ytjnekmdocbmofaa", sum := "4da47921c77bd8aa93e04be8adecfe274d293e351e64f8be097d2b7bc816c415", func := "colloquy/colloquylaw21.ChansPlays", spec := "chansPlays", unfollowed := true, recurses := true, apart := false, narrowed := true }
def ChansPlaysUptoSaid : Prop := chansPlaysUptoRow.holds Try.pinned (OpenSpec.upto chansPlaysSpec)

/-- 'colloquylaw21.ChansFifo', WHERE WHAT IT READS IS OF BULK AT MOST 1048576: true; the input reads as it did. -/
def chansFifoUptoRow : OpenClaim := { program := "ytjnekmdocbmofaa", sum := "4da47921c77bd8aa93e04be8adecfe274d293e351e64f8be097d2b7bc816c415", func := "colloquy/colloquylaw21.ChansFifo", spec := "chansFifo", unfollowed := true, recurses := true, apart := false, narrowed := true }
def ChansFifoUptoSaid : Prop := chansFifoUptoRow.holds Try.pinned (OpenSpec.upto chansFifoSpec)

/-- 'colloquylaw21.ChansKnown', WHERE WHAT IT READS IS OF BULK AT MOST 1048576: true; the input reads as it did. -/
def chansKnownUptoRow : OpenClaim := { program := "ytjnekmdocbmofaa", sum := "4da47921c77bd8aa93e04be8adecfe274d293e351e64f8be097d2b7bc816c415", func := "colloquy/colloquylaw21.ChansKnown", spec := "chansKnown", unfollowed := true, recurses := true, apart := false, narrowed := true }
def ChansKnownUptoSaid : Prop := chansKnownUptoRow.holds Try.pinned (OpenSpec.upto chansKnownSpec)

end Rows
end Go.Proofs.Ytjnekmdocbmofaa
