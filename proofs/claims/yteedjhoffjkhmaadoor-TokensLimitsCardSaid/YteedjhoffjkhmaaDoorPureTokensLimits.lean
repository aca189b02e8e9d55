import Derived.Test.YteedjhoffjkhmaaDoorQL
namespace Go.Proofs.YteedjhoffjkhmaaDoor.Pure
theorem TokensLimits : Go.Proofs.YteedjhoffjkhmaaDoor.PT.latchkeylaw05_TokensLimits.Pure := Go.Proofs.YteedjhoffjkhmaaDoor.Q.limits_pure
end Go.Proofs.YteedjhoffjkhmaaDoor.Pure
