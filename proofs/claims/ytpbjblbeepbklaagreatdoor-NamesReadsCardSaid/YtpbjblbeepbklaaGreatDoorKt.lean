/- The program's walks: NamesOrder whole. -/
import Derived.Test.YtpbjblbeepbklaaGreatDoorKr
import Derived.Test.YtpbjblbeepbklaaGreatDoorKq
namespace Go.Proofs.YtpbjblbeepbklaaGreatDoor
set_option linter.unusedSimpArgs false
set_option linter.unusedVariables false
open Go.RowKit Go.Shelf Go.Lib

theorem gives_works {w : World} (hw : Laid w) : Gives w 20 #[] (.bool true) := fun u t => works_any (hw.turn t)
theorem gives_name0 {w : World} {v : Value} {l : List Nat} (h : ByteSl w v l) : Gives w 9 #[v, .int .i64 0] (.string (BT (name0 l))) := fun u t => name01_any (k := 0) (.inl rfl) (h.turn t)
theorem gives_name1 {w : World} {v : Value} {l : List Nat} (h : ByteSl w v l) : Gives w 9 #[v, .int .i64 1] (.string (BT (name1 l))) := fun u t => name01_any (k := 1) (.inr rfl) (h.turn t)
end Go.Proofs.YtpbjblbeepbklaaGreatDoor
