/-
  No cell of these rows narrows 'for every input' (looked for: loops, veiled, ifaces, maps, wideKeys, modest, calm, conditions, laid).
  DERIVED. THE GIVEN ROWS OF THIS SEAT. 6 by the template 'for every input the law returns true; each argument reads behind the call as it read before'; 0 by the template 'total and deterministic' (their statements: YtoghmpdamflehaaTotals.lean).
  GIVEN WITH THE SEED: the statements are not yours to turn. If you find one false, say at which input.
  Laid BY PROGRAM, IN A SANDBOX (cutbox-rows.mjs): the forced cells as the released guide's own fill.sh prints them over the translation f648675ba3065061… (all of the seat's roots in one cut). By AI agents, Wed Nov 11 2026. No macro, syntax, notation, axiom, sorry.
-/
import Derived.Test.YtoghmpdamflehaaChecked
import GoSem.Claim
import GoSem.ClaimJoined
import GoSem.ClaimMapViews
import Derived.JoinedTies
import Derived.KernelRfl
namespace Go.Proofs.Ytoghmpdamflehaa
/- THE CELL 'sum', in the pinned program and in every row, IS THE sha256 OF THE DUMP (.gsa) THAT YtoghmpdamflehaaProg.lean LOADS. Nothing in Lean hashes anything: it is a label: what it is worth is what the hold of that sum in a sandbox is worth. -/
noncomputable def Try.pinned : Pinned := { name := "ytoghmpdamflehaa", sum := "f648675ba3065061997a008b839f8d581f6ee748d871e5d89f936c42f40cca1e", checked := Try.checked }
namespace Rows
def none {H : Type} : Left H := { results := [], args := [] }

/-- 'casketlaw19.PadSizes': WHATEVER THE INPUT: true; the input reads as it did. -/
def padSizesSpec : ChangeSpec := { name := "padSizes", fn := fun _ => fun
  | [d1, d2] => { results := [.lit (.bool true)], args := [d1, d2] }
  | _ => none }
def padSizesRow : OpenClaim := { program := "ytoghmpdamflehaa", sum := "f648675ba3065061997a008b839f8d581f6ee748d871e5d89f936c42f40cca1e", func := "casket/casketlaw19.PadSizes", spec := "padSizes", unfollowed := true, recurses := true, apart := false }
def PadSizesSaid : Prop := padSizesRow.holds Try.pinned (OpenSpec.ofChange padSizesSpec)

/-- ITS FALSE NEIGHBOUR: 'it returns false'. Refute it at one input. -/
def padSizesWrong : ChangeSpec := { name := "padSizes", fn := fun _ => fun
  | [d1, d2] => { results := [.lit (.bool false)], args := [d1, d2] }
  | _ => none }
def PadSizesWrongFalsely : Prop := padSizesRow.holds Try.pinned (OpenSpec.ofChange padSizesWrong)

/-- 'casketlaw19.PadLengths': WHATEVER THE INPUT: true; the input reads as it did. -/
def padLengthsSpec : ChangeSpec := { name := "padLengths", fn := fun _ => fun
  | [d1, d2] => { results := [.lit (.bool true)], args := [d1, d2] }
  | _ => none }
def padLengthsRow : OpenClaim := { program := "ytoghmpdamflehaa", sum := "f648675ba3065061997a008b839f8d581f6ee748d871e5d89f936c42f40cca1e", func := "casket/casketlaw19.PadLengths", spec := "padLengths", unfollowed := true, recurses := true, apart := false }
def PadLengthsSaid : Prop := padLengthsRow.holds Try.pinned (OpenSpec.ofChange padLengthsSpec)

/-- ITS FALSE NEIGHBOUR: 'it returns false'. Refute it at one input. -/
def padLengthsWrong : ChangeSpec := { name := "padLengths", fn := fun _ => fun
  | [d1, d2] => { results := [.lit (.bool false)], args := [d1, d2] }
  | _ => none }
def PadLengthsWrongFalsely : Prop := padLengthsRow.holds Try.pinned (OpenSpec.ofChange padLengthsWrong)

/-- 'casketlaw19.PadFits': WHATEVER THE INPUT: true; the input reads as it did. -/
def padFitsSpec : ChangeSpec := { name := "padFits", fn := fun _ => fun
  | [d] => { results := [.lit (.bool true)], args := [d] }
  | _ => none }
def padFitsRow : OpenClaim := { program := "ytoghmpdamflehaa", sum := "f648675ba3065061997a008b839f8d581f6ee748d871e5d89f936c42f40cca1e", func := "casket/casketlaw19.PadFits", spec := "padFits", unfollowed := true, recurses := true, apart := false }
def PadFitsSaid : Prop := padFitsRow.holds Try.pinned (OpenSpec.ofChange padFitsSpec)

/-- ITS FALSE NEIGHBOUR: 'it returns false'. Refute it at one input. -/
def padFitsWrong : ChangeSpec := { name := "padFits", fn := fun _ => fun
  | [d] => { results := [.lit (.bool false)], args := [d] }
  | _ => none }
def PadFitsWrongFalsely : Prop := padFitsRow.holds Try.pinned (OpenSpec.ofChange padFitsWrong)

/-- 'casketlaw19.PadPads': WHATEVER THE INPUT: true; the input reads as it did. -/
def padPadsSpec : ChangeSpec := { name := "padPads", fn := fun _ => fun
  | [d] => { results := [.lit (.bool true)], args := [d] }
  | _ => none }
def padPadsRow : OpenClaim := { program := "ytoghmpdamflehaa", sum := "f648675ba3065061997a008b839f8d581f6ee748d871e5d89f936c42f40cca1e", func := "casket/casketlaw19.PadPads", spec := "padPads", unfollowed := true, recurses := true, apart := false }
def PadPadsSaid : Prop := padPadsRow.holds Try.pinned (OpenSpec.ofChange padPadsSpec)

/-- ITS FALSE NEIGHBOUR: 'it returns false'. Refute it at one input. -/
def padPadsWrong : ChangeSpec := { name := "padPads", fn := fun _ => fun
  | [d] => { results := [.lit (.bool false)], args := [d] }
  | _ => none }
def PadPadsWrongFalsely : Prop := padPadsRow.holds Try.pinned (OpenSpec.ofChange padPadsWrong)

/-- 'casketlaw19.PadBack': WHATEVER THE INPUT: true; the input reads as it did. -/
def padBackSpec : ChangeSpec := { name := "padBack", fn := fun _ => fun
  | [d1, d2, d3] => { results := [.lit (.bool true)], args := [d1, d2, d3] }
  | _ => none }
def padBackRow : OpenClaim := { program := "ytoghmpdamflehaa", sum := "f648675ba3065061997a008b839f8d581f6ee748d871e5d89f936c42f40cca1e", func := "casket/casketlaw19.PadBack", spec := "padBack", unfollowed := true, recurses := true, apart := false }
def PadBackSaid : Prop := padBackRow.holds Try.pinned (OpenSpec.ofChange padBackSpec)

/-- ITS FALSE NEIGHBOUR: 'it returns false'. Refute it at one input. -/
def padBackWrong : ChangeSpec := { name := "padBack", fn := fun _ => fun
  | [d1, d2, d3] => { results := [.lit (.bool false)], args := [d1, d2, d3] }
  | _ => none }
def PadBackWrongFalsely : Prop := padBackRow.holds Try.pinned (OpenSpec.ofChange padBackWrong)

/-- 'casketlaw19.PadOnly': WHATEVER THE INPUT: true; the input reads as it did. -/
def padOnlySpec : ChangeSpec := { name := "padOnly", fn := fun _ => fun
  | [d] => { results := [.lit (.bool true)], args := [d] }
  | _ => none }
def padOnlyRow : OpenClaim := { program := "ytoghmpdamflehaa", sum := "f648675ba3065061997a008b839f8d581f6ee748d871e5d89f936c42f40cca1e", func := "casket/casketlaw19.PadOnly", spec := "padOnly", unfollowed := true, recurses := true, apart := false }
def PadOnlySaid : Prop := padOnlyRow.holds Try.pinned (OpenSpec.ofChange padOnlySpec)

/-- ITS FALSE NEIGHBOUR: 'it returns false'. Refute it at one input. -/
def padOnlyWrong : ChangeSpec := { name := "padOnly", fn := fun _ => fun
  | [d] => { results := [.lit (.bool false)], args := [d] }
  | _ => none }
def PadOnlyWrongFalsely : Prop := padOnlyRow.holds Try.pinned (OpenSpec.ofChange padOnlyWrong)

/- THE SECOND FORM. 'bulk': how many values and letters a reading holds, each counted each time it is reached (what is shared counts as often as it is met; a slice's spare places count too). A statement '..UptoSaid' is the law's where the arguments, and the package variables that the reading takes, are together of bulk at most 1048576: NARROWER than '..Said'. Prove '..Said' where nothing that the law and all that it calls make is longer than what came in: it says more and counts as full. Else prove '..UptoSaid'. A law counts once. -/
mutual
def uptoBulk {H : Type} : DataW H → Nat
  | .lit (.string bytes) => bytes.length + 1
  | .lit _ => 1
  | .nil => 1
  | .ptr d => uptoBulk d + 1
  | .slice elems spare => uptoBulkAll elems + uptoBulkAll spare + 1
  | .agg parts => uptoBulkAll parts + 1
  | .iface _ d => uptoBulk d + 1
  | .map entries => uptoBulkEntries entries + 1
  | .held _ => 1
def uptoBulkAll {H : Type} : List (DataW H) → Nat
  | [] => 0
  | d :: r => uptoBulk d + uptoBulkAll r
def uptoBulkEntries {H : Type} : List (Lit × DataW H) → Nat
  | [] => 0
  | x :: r => uptoBulkEntry x + uptoBulkEntries r
def uptoBulkEntry {H : Type} : Lit × DataW H → Nat
  | (.string bytes, d) => bytes.length + uptoBulk d + 1
  | (_, d) => uptoBulk d + 1
 end
def uptoSmall : (H : Type) → List (DataW H) → Bool := fun _ ds => decide (uptoBulkAll ds ≤ 1048576)
def OpenSpec.upto (s : _root_.Go.ChangeSpec) : _root_.Go.OpenSpec := { _root_.Go.OpenSpec.ofChange s with cond := some uptoSmall }

/-- 'casketlaw19.PadSizes', WHERE WHAT IT READS IS OF BULK AT MOST 1048576: true; the input reads as it did. -/
def padSizesUptoRow : OpenClaim := { program := "ytoghmpdamflehaa", sum := "f648675ba3065061997a008b839f8d581f6ee748d871e5d89f936c42f40cca1e", func := "casket/casketlaw19.PadSizes", spec := "padSizes", unfollowed := true, recurses := true, apart := false, narrowed := true }
def PadSizesUptoSaid : Prop := padSizesUptoRow.holds Try.pinned (OpenSpec.upto padSizesSpec)

/-- 'casketlaw19.PadLengths', WHERE WHAT IT READS IS OF BULK AT MOST 1048576: true; the input reads as it did. -/
def padLengthsUptoRow : OpenClaim := { program := "ytoghmpdamflehaa", sum := "f648675ba3065061997a008b839f8d581f6ee748d871e5d89f936c42f40cca1e", func := "casket/casketlaw19.PadLengths", spec := "padLengths", unfollowed := true, recurses := true, apart := false, narrowed := true }
def PadLengthsUptoSaid : Prop := padLengthsUptoRow.holds Try.pinned (OpenSpec.upto padLengthsSpec)

/-- 'casketlaw19.PadFits', WHERE WHAT IT READS IS OF BULK AT MOST 1048576: true; the input reads as it did. -/
def padFitsUptoRow : OpenClaim := { program := "ytoghmpdamflehaa", sum := "f648675ba3065061997a008b839f8d581f6ee748d871e5d89f936c42f40cca1e", func := "casket/casketlaw19.PadFits", spec := "padFits", unfollowed := true, recurses := true, apart := false, narrowed := true }
def PadFitsUptoSaid : Prop := padFitsUptoRow.holds Try.pinned (OpenSpec.upto padFitsSpec)

/-- 'casketlaw19.PadPads', WHERE WHAT IT READS IS OF BULK AT MOST 1048576: true; the input reads as it did. -/
def padPadsUptoRow : OpenClaim := { program := "ytoghmpdamflehaa", sum := "f648675ba3065061997a008b839f8d581f6ee748d871e5d89f936c42f40cca1e", func := "casket/casketlaw19.PadPads", spec := "padPads", unfollowed := true, recurses := true, apart := false, narrowed := true }
def PadPadsUptoSaid : Prop := padPadsUptoRow.holds Try.pinned (OpenSpec.upto padPadsSpec)

/-- 'casketlaw19.PadBack', WHERE WHAT IT READS IS OF BULK AT MOST 1048576: true; the input reads as it did. -/
def padBackUptoRow : OpenClaim := { program := "ytoghmpdamflehaa", sum := "f648675ba3065061997a008b839f8d581f6ee748d871e5d89f936c42f40cca1e", func := "casket/casketlaw19.PadBack", spec := "padBack", unfollowed := true, recurses := true, apart := false, narrowed := true }
def PadBackUptoSaid : Prop := padBackUptoRow.holds Try.pinned (OpenSpec.upto padBackSpec)

/-- 'casketlaw19.PadOnly', WHERE WHAT IT READS IS OF BULK AT MOST 1048576: true; the input reads as it did. -/
def padOnlyUptoRow : OpenClaim := { program := "ytoghmpdamflehaa", sum := "f648675ba3065061997a008b839f8d581f6ee748d871e5d89f936c42f40cca1e", func := "casket/casketlaw19.PadOnly", spec := "padOnly", unfollowed := true, recurses := true, apart := false, narrowed := true }
def PadOnlyUptoSaid : Prop := padOnlyUptoRow.holds Try.pinned (OpenSpec.upto padOnlySpec)

end Rows
end Go.Proofs.Ytoghmpdamflehaa
