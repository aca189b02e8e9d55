import Derived.Test.YteedjhoffjkhmaaDoorQSb
namespace Go.Proofs.YteedjhoffjkhmaaDoor.Pure
theorem TokensScans : Go.Proofs.YteedjhoffjkhmaaDoor.PT.latchkeylaw05_TokensScans.Pure := Go.Proofs.YteedjhoffjkhmaaDoor.Q.pureScans
end Go.Proofs.YteedjhoffjkhmaaDoor.Pure
