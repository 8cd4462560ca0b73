/- For every number: of a cursor that is none nothing is told. No condition. -/
import Derived.Test.YtcfkljhdjoepkaaNone
namespace Go.Proofs.Ytcfkljhdjoepkaa.Pure
open Go.Proofs.Ytcfkljhdjoepkaa.P
theorem CursorNone : casketlaw03_CursorNone.Pure := trivial
end Go.Proofs.Ytcfkljhdjoepkaa.Pure
