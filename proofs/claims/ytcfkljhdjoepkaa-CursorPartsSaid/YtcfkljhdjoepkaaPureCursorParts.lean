/- Nothing plain is left to show. -/
import Derived.Test.YtcfkljhdjoepkaaCParts
namespace Go.Proofs.Ytcfkljhdjoepkaa.Pure
open Go.RowKit Go.Proofs.Ytcfkljhdjoepkaa.P
theorem CursorParts : casketlaw03_CursorParts.Pure := trivial
end Go.Proofs.Ytcfkljhdjoepkaa.Pure
