/- Nothing plain is left to show. -/
import Derived.Test.YtfcllbkjhiendaaSBack
namespace Go.Proofs.Ytfcllbkjhiendaa.Pure
open Go.RowKit Go.Proofs.Ytfcllbkjhiendaa.P
theorem SimpleBack : casketlaw06_SimpleBack.Pure := trivial
end Go.Proofs.Ytfcllbkjhiendaa.Pure
