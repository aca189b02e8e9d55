import Derived.Test.YteedjhoffjkhmaaDoorQSa
import Derived.Test.YteedjhoffjkhmaaDoorPTx17
namespace Go.Proofs.YteedjhoffjkhmaaDoor.Q
open Go.RowKit Go.Proofs.YteedjhoffjkhmaaDoor.PT Go.Proofs.YteedjhoffjkhmaaDoorW.PrintWords Go.Proofs.YteedjhoffjkhmaaDoorW.PrintLast Go.Proofs.YteedjhoffjkhmaaDoorW.PrintMore
set_option linter.unusedVariables false
set_option linter.unusedSimpArgs false
theorem awake_at : latchkeylaw05_awake.f 60 = some true := by decide +kernel
theorem awake_ev : Ev (fun k => latchkeylaw05_awake.f k) true := Ev.of_mono (fun k => latchkeylaw05_awake.mono k) awake_at
end Go.Proofs.YteedjhoffjkhmaaDoor.Q
