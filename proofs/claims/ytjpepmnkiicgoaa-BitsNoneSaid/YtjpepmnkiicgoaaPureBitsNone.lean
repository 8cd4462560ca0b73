/- Nothing plain is left to show. -/
import Derived.Test.YtjpepmnkiicgoaaBNone
namespace Go.Proofs.Ytjpepmnkiicgoaa.Pure
open Go.RowKit Go.Proofs.Ytjpepmnkiicgoaa.P
theorem BitsNone : casketlaw01_BitsNone.Pure := trivial
end Go.Proofs.Ytjpepmnkiicgoaa.Pure
