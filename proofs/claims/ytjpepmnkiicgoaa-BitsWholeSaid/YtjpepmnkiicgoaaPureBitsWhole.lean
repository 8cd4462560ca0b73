/- Nothing plain is left to show. -/
import Derived.Test.YtjpepmnkiicgoaaBWhole
namespace Go.Proofs.Ytjpepmnkiicgoaa.Pure
open Go.RowKit Go.Proofs.Ytjpepmnkiicgoaa.P
theorem BitsWhole : casketlaw01_BitsWhole.Pure := trivial
end Go.Proofs.Ytjpepmnkiicgoaa.Pure
