/- The program's own facts that the cards lean on. -/
import Derived.Test.YtbapgefodmmikaaGreatDoorRows
import Derived.SevenTiedAt
import Derived.KernelRfl
set_option linter.unusedVariables false
namespace Go.Proofs.YtbapgefodmmikaaGreatDoor
theorem prog_main : Tryz.pinned.checked.prog.mainIs = some (true, "0c2597285c1caf28bf0c01c994265cfdb4333da2917eb009d68c610867dabc9a".toList) := by kernel_rfl
theorem prog_looks : true = Tryz.pinned.checked.prog.looks [] := by kernel_rfl
end Go.Proofs.YtbapgefodmmikaaGreatDoor
