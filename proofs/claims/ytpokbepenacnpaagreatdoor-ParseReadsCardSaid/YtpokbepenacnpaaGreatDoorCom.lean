/-
  Closed facts on the program's types that several texts use. No condition.
-/
import Derived.Test.YtpokbepenacnpaaGreatDoorBase
import Derived.Test.YtpokbepenacnpaaGreatDoorProg
namespace Go.Proofs.YtpokbepenacnpaaGreatDoor
open Go.RowKit

theorem info_u8 : (Tryz.prog.info? 5).map (fun i => (i.zero, i.size, i.bytes)) = some (some (.int .u8 0), 1, 1) := by kernel_rfl
end Go.Proofs.YtpokbepenacnpaaGreatDoor
