/-
  Closed facts on the program's types that several texts use. No condition.
-/
import Derived.Test.YtpghimiecigakaaDoorBase
import Derived.Test.YtpghimiecigakaaDoorProg
namespace Go.Proofs.YtpghimiecigakaaDoor
open Go.RowKit

theorem info_u8 : (Tryd.prog.info? 5).map (fun i => (i.zero, i.size, i.bytes)) = some (some (.int .u8 0), 1, 1) := by kernel_rfl
end Go.Proofs.YtpghimiecigakaaDoor
