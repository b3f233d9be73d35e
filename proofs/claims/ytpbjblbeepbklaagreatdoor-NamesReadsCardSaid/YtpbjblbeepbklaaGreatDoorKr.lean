/- The program's walks: NamesOrder's body, by the contracts of what it calls. Printed by gen_xr.py. -/
import Derived.Test.YtpbjblbeepbklaaGreatDoorKb
import Derived.Deep.Cut
namespace Go.Proofs.YtpbjblbeepbklaaGreatDoor
set_option linter.unusedSimpArgs false
set_option linter.unusedVariables false
open Go.RowKit

abbrev Gives (w : World) (f : FuncId) (args : Array Value) (v : Value) : Prop := ∀ u, Turn Nn w u → Calls Tryz.prog f args u fun e u' => e = .returned v ∧ Turn Nn u u'
end Go.Proofs.YtpbjblbeepbklaaGreatDoor
