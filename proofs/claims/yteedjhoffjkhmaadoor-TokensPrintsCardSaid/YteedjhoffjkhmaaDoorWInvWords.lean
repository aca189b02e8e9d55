import Derived.Test.YteedjhoffjkhmaaDoorWInv
import Derived.Test.YteedjhoffjkhmaaDoorWFootNe
namespace Go.Proofs.YteedjhoffjkhmaaDoorW.PrintWords
open Go.RowKit
end Go.Proofs.YteedjhoffjkhmaaDoorW.PrintWords
namespace Go.Proofs.YteedjhoffjkhmaaDoorW.PrintLast
section
variable {ops : Array Oper} {a : Act} {o og : Oper} {g : Nat} {t : Tmp} {u : Bool}
end
end Go.Proofs.YteedjhoffjkhmaaDoorW.PrintLast
