/- The document's walks: the order of actors. Printed by gen_ya.py. -/
import Derived.Test.YtpbjblbeepbklaaGreatDoorKd
import Derived.Test.YtpbjblbeepbklaaGreatDoorKb
import Derived.Test.YtpbjblbeepbklaaGreatDoorKa
import Derived.Deep.Cut
namespace Go.Proofs.YtpbjblbeepbklaaGreatDoor
set_option linter.unusedSimpArgs false
set_option linter.unusedVariables false
open Go.RowKit

theorem beq_dec2 (a b : Bs) : ((BT a).toList == (BT b).toList) = decide (a = b) := by
  rw [BT_toList, BT_toList, Bool.eq_iff_iff, beq_iff_eq, decide_eq_true_eq]
end Go.Proofs.YtpbjblbeepbklaaGreatDoor
