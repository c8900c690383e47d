/- Does the call start goroutines by its text? A fact of its own: for the kernel's memory. -/
import Derived.Test.YtnkkoicbnbjlnaaGreatDoorRows
import GoSem.ClaimGoes
namespace Go.Proofs.YtnkkoicbnbjlnaaGreatDoor.cardRunsRow
set_option maxRecDepth 100000
set_option maxHeartbeats 8000000
open Go
theorem goes : false = Rows.runsRowUptoRow.goesBy Tryz.pinned.checked.prog := by kernel_rfl
end Go.Proofs.YtnkkoicbnbjlnaaGreatDoor.cardRunsRow
