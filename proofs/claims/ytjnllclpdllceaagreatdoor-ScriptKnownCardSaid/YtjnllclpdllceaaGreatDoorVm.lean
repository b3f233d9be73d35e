/- works: the closed texts. -/
import Derived.Test.YtjnllclpdllceaaGreatDoorVl
import Derived.KernelRfl
namespace Go.Proofs.YtjnllclpdllceaaGreatDoor
set_option linter.unusedSimpArgs false
set_option linter.unusedVariables false
open Go.RowKit Go.Shelf

def wkT : Bs := [109, 97, 99, 104, 105, 110, 101, 32, 56, 32, 52, 32, 50, 10, 98, 121, 116, 101, 115, 32, 52, 51, 52, 99, 53, 49, 53, 57, 10, 112, 105, 99, 107, 32, 48, 32, 51, 10, 114, 111, 117, 110, 100, 32, 49, 48, 10, 114, 111, 119, 115, 10]
def wkU : Bs := [109, 97, 99, 104, 105, 110, 101, 32, 56, 32, 52, 32, 50, 10, 112, 105, 99, 107, 32, 48, 32, 48, 10]
def wkS : ScriptD := ⟨8, 4, 2, false, [67, 76, 81, 89], [⟨0, 0, 3⟩, ⟨1, 0, 10⟩, ⟨3, 0, 0⟩]⟩
theorem wk_print : printD wkS = (wkT, 0) := by kernel_rfl
theorem wk_parse : parseD wkT = .ok wkS := parse_print wk_print
theorem wk_fault : parseD wkU = .error (2, 1) := by kernel_rfl
end Go.Proofs.YtjnllclpdllceaaGreatDoor
