import Derived.Test.YteedjhoffjkhmaaDoorQSc
namespace Go.Proofs.YteedjhoffjkhmaaDoor.Pure
theorem TokensBegins : Go.Proofs.YteedjhoffjkhmaaDoor.PT.latchkeylaw05_TokensBegins.Pure := Go.Proofs.YteedjhoffjkhmaaDoor.Q.pureBegins
end Go.Proofs.YteedjhoffjkhmaaDoor.Pure
