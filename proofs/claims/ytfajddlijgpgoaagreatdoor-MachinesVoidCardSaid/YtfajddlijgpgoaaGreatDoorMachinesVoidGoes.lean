/- Does the call start goroutines by its text? A fact of its own: for the kernel's memory. -/
import Derived.Test.YtfajddlijgpgoaaGreatDoorRows
import GoSem.ClaimGoes
namespace Go.Proofs.YtfajddlijgpgoaaGreatDoor.cardMachinesVoid
open Go
theorem goes : false = Rows.machinesVoidRow.goesBy Tryz.pinned.checked.prog := by kernel_rfl
end Go.Proofs.YtfajddlijgpgoaaGreatDoor.cardMachinesVoid
