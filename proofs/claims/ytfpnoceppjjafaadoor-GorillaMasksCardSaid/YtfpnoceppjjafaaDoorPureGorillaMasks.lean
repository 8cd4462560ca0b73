/- For all lists of up to 300 patterns, every mask and every number: only what differs counts. No condition. (The walk has told it all: nothing plain is left.) -/
import Derived.Test.YtfpnoceppjjafaaDoorMaskW
namespace Go.Proofs.YtfpnoceppjjafaaDoor.Pure
open Go.Proofs.YtfpnoceppjjafaaDoor.P
theorem GorillaMasks : casketlaw09_GorillaMasks.Pure := trivial
end Go.Proofs.YtfpnoceppjjafaaDoor.Pure
