/- The witness of OpsAsks. No condition. -/
import Derived.Test.YtifcpnmcfodacaaGreatDoorLaidB
import Derived.Below
import Derived.ChangeSame
import Derived.RowKit

namespace Go.Ev
open Go Go.Proofs Go.Proofs.YtifcpnmcfodacaaGreatDoor
set_option maxRecDepth 100000


theorem asks_okWide (os : Os) : Input.okWideB Tryz.prog ((witWorld os).forCall (fun _ _ => 0) ⟨#[], #[.agg #[.int .i64 0, .int .i64 0, .int .i64 0, .int .i64 0, .int .i64 0, .int .i64 0, .int .i64 0, .int .i64 0, .int .i64 0, .int .i64 0]], []⟩) 5 ⟨#[], #[.agg #[.int .i64 0, .int .i64 0, .int .i64 0, .int .i64 0, .int .i64 0, .int .i64 0, .int .i64 0, .int .i64 0, .int .i64 0, .int .i64 0]], []⟩ = true := by kernel_rfl
theorem asks_pre {H : Type} {enc : TypeId × Value → H} (os : Os) : Rows.opsAsksSpec.preB enc Tryz.prog Tryz.f5 [] false ((witWorld os).forCall (fun _ _ => 0) ⟨#[], #[.agg #[.int .i64 0, .int .i64 0, .int .i64 0, .int .i64 0, .int .i64 0, .int .i64 0, .int .i64 0, .int .i64 0, .int .i64 0, .int .i64 0]], []⟩).memory #[.agg #[.int .i64 0, .int .i64 0, .int .i64 0, .int .i64 0, .int .i64 0, .int .i64 0, .int .i64 0, .int .i64 0, .int .i64 0, .int .i64 0]] 8 = true := by kernel_rfl
theorem asks_sized {H : Type} {enc : TypeId × Value → H} (os : Os) : Rows.opsAsksSpec.sizedB enc Tryz.prog Tryz.f5 false ((witWorld os).forCall (fun _ _ => 0) ⟨#[], #[.agg #[.int .i64 0, .int .i64 0, .int .i64 0, .int .i64 0, .int .i64 0, .int .i64 0, .int .i64 0, .int .i64 0, .int .i64 0, .int .i64 0]], []⟩).memory #[.agg #[.int .i64 0, .int .i64 0, .int .i64 0, .int .i64 0, .int .i64 0, .int .i64 0, .int .i64 0, .int .i64 0, .int .i64 0, .int .i64 0]] 8 = true := by kernel_rfl
end Go.Ev
