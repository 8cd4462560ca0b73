/- Nothing plain is left to show. -/
import Derived.Test.YtjpepmnkiicgoaaBParts
namespace Go.Proofs.Ytjpepmnkiicgoaa.Pure
open Go.RowKit Go.Proofs.Ytjpepmnkiicgoaa.P
theorem BitsParts : casketlaw01_BitsParts.Pure := trivial
end Go.Proofs.Ytjpepmnkiicgoaa.Pure
