/-
  No cell of these rows narrows 'for every input' (looked for: loops, veiled, ifaces, maps, wideKeys, modest, calm, conditions, laid).
  DERIVED. THE GIVEN ROWS OF THIS SEAT. 5 by the template 'for every input the law returns true; each argument reads behind the call as it read before'; 0 by the template 'total and deterministic' (their statements: YtfnnlcmfahadhaaTotals.lean).
  GIVEN WITH THE SEED: the statements are not yours to turn. If you find one false, say at which input.
  Laid BY PROGRAM, IN A SANDBOX (cutbox-rows.mjs): the forced cells as the released guide's own fill.sh prints them over the translation 07cbbfa063585675… (all of the seat's roots in one cut). By AI agents, Wed Nov 11 2026. No macro, syntax, notation, axiom, sorry.
-/
import Derived.Test.YtfnnlcmfahadhaaChecked
import GoSem.Claim
import GoSem.ClaimJoined
import GoSem.ClaimMapViews
import Derived.JoinedTies
import Derived.KernelRfl
namespace Go.Proofs.Ytfnnlcmfahadhaa
/- THE CELL 'sum', in the pinned program and in every row, IS THE sha256 OF THE DUMP (.gsa) THAT YtfnnlcmfahadhaaProg.lean LOADS. Nothing in Lean hashes anything: it is a label: what it is worth is what the hold of that sum in a sandbox is worth. -/
noncomputable def Try.pinned : Pinned := { name := "ytfnnlcmfahadhaa", sum := "07cbbfa063585675a32a1ba16501facd805e2654fde3206230a66972845e6ac0", checked := Try.checked }
namespace Rows
def none {H : Type} : Left H := { results := [], args := [] }

/-- 'casketlaw10.DictEncodes': WHATEVER THE INPUT: true; the input reads as it did. -/
def dictEncodesSpec : ChangeSpec := { name := "dictEncodes", fn := fun _ => fun
  | [d] => { results := [.lit (.bool true)], args := [d] }
  | _ => none }
def dictEncodesRow : OpenClaim := { program := "ytfnnlcmfahadhaa", sum := "07cbbfa063585675a32a1ba16501facd805e2654fde3206230a66972845e6ac0", func := "casket/casketlaw10.DictEncodes", spec := "dictEncodes", apart := false }
def DictEncodesSaid : Prop := dictEncodesRow.holds Try.pinned (OpenSpec.ofChange dictEncodesSpec)

/-- ITS FALSE NEIGHBOUR: 'it returns false'. Refute it at one input. -/
def dictEncodesWrong : ChangeSpec := { name := "dictEncodes", fn := fun _ => fun
  | [d] => { results := [.lit (.bool false)], args := [d] }
  | _ => none }
def DictEncodesWrongFalsely : Prop := dictEncodesRow.holds Try.pinned (OpenSpec.ofChange dictEncodesWrong)

/-- 'casketlaw10.DictDecodes': WHATEVER THE INPUT: true; the input reads as it did. -/
def dictDecodesSpec : ChangeSpec := { name := "dictDecodes", fn := fun _ => fun
  | [d1, d2] => { results := [.lit (.bool true)], args := [d1, d2] }
  | _ => none }
def dictDecodesRow : OpenClaim := { program := "ytfnnlcmfahadhaa", sum := "07cbbfa063585675a32a1ba16501facd805e2654fde3206230a66972845e6ac0", func := "casket/casketlaw10.DictDecodes", spec := "dictDecodes", apart := false }
def DictDecodesSaid : Prop := dictDecodesRow.holds Try.pinned (OpenSpec.ofChange dictDecodesSpec)

/-- ITS FALSE NEIGHBOUR: 'it returns false'. Refute it at one input. -/
def dictDecodesWrong : ChangeSpec := { name := "dictDecodes", fn := fun _ => fun
  | [d1, d2] => { results := [.lit (.bool false)], args := [d1, d2] }
  | _ => none }
def DictDecodesWrongFalsely : Prop := dictDecodesRow.holds Try.pinned (OpenSpec.ofChange dictDecodesWrong)

/-- 'casketlaw10.DictBack': WHATEVER THE INPUT: true; the input reads as it did. -/
def dictBackSpec : ChangeSpec := { name := "dictBack", fn := fun _ => fun
  | [d1, d2, d3] => { results := [.lit (.bool true)], args := [d1, d2, d3] }
  | _ => none }
def dictBackRow : OpenClaim := { program := "ytfnnlcmfahadhaa", sum := "07cbbfa063585675a32a1ba16501facd805e2654fde3206230a66972845e6ac0", func := "casket/casketlaw10.DictBack", spec := "dictBack", apart := false }
def DictBackSaid : Prop := dictBackRow.holds Try.pinned (OpenSpec.ofChange dictBackSpec)

/-- ITS FALSE NEIGHBOUR: 'it returns false'. Refute it at one input. -/
def dictBackWrong : ChangeSpec := { name := "dictBack", fn := fun _ => fun
  | [d1, d2, d3] => { results := [.lit (.bool false)], args := [d1, d2, d3] }
  | _ => none }
def DictBackWrongFalsely : Prop := dictBackRow.holds Try.pinned (OpenSpec.ofChange dictBackWrong)

/-- 'casketlaw10.DictOnly': WHATEVER THE INPUT: true; the input reads as it did. -/
def dictOnlySpec : ChangeSpec := { name := "dictOnly", fn := fun _ => fun
  | [d1, d2] => { results := [.lit (.bool true)], args := [d1, d2] }
  | _ => none }
def dictOnlyRow : OpenClaim := { program := "ytfnnlcmfahadhaa", sum := "07cbbfa063585675a32a1ba16501facd805e2654fde3206230a66972845e6ac0", func := "casket/casketlaw10.DictOnly", spec := "dictOnly", apart := false }
def DictOnlySaid : Prop := dictOnlyRow.holds Try.pinned (OpenSpec.ofChange dictOnlySpec)

/-- ITS FALSE NEIGHBOUR: 'it returns false'. Refute it at one input. -/
def dictOnlyWrong : ChangeSpec := { name := "dictOnly", fn := fun _ => fun
  | [d1, d2] => { results := [.lit (.bool false)], args := [d1, d2] }
  | _ => none }
def DictOnlyWrongFalsely : Prop := dictOnlyRow.holds Try.pinned (OpenSpec.ofChange dictOnlyWrong)

/-- 'casketlaw10.DictNames': WHATEVER THE INPUT: true; the input reads as it did. -/
def dictNamesSpec : ChangeSpec := { name := "dictNames", fn := fun _ => fun
  | [d1, d2] => { results := [.lit (.bool true)], args := [d1, d2] }
  | _ => none }
def dictNamesRow : OpenClaim := { program := "ytfnnlcmfahadhaa", sum := "07cbbfa063585675a32a1ba16501facd805e2654fde3206230a66972845e6ac0", func := "casket/casketlaw10.DictNames", spec := "dictNames", apart := false }
def DictNamesSaid : Prop := dictNamesRow.holds Try.pinned (OpenSpec.ofChange dictNamesSpec)

/-- ITS FALSE NEIGHBOUR: 'it returns false'. Refute it at one input. -/
def dictNamesWrong : ChangeSpec := { name := "dictNames", fn := fun _ => fun
  | [d1, d2] => { results := [.lit (.bool false)], args := [d1, d2] }
  | _ => none }
def DictNamesWrongFalsely : Prop := dictNamesRow.holds Try.pinned (OpenSpec.ofChange dictNamesWrong)

/- THE SECOND FORM. 'bulk': how many values and letters a reading holds, each counted each time it is reached (what is shared counts as often as it is met; a slice's spare places count too). A statement '..UptoSaid' is the law's where the arguments, and the package variables that the reading takes, are together of bulk at most 1048576: NARROWER than '..Said'. Prove '..Said' where nothing that the law and all that it calls make is longer than what came in: it says more and counts as full. Else prove '..UptoSaid'. A law counts once. -/
mutual
def uptoBulk {H : Type} : DataW H → Nat
  | .lit (.string bytes) => bytes.length + 1
  | .lit _ => 1
  | .nil => 1
  | .ptr d => uptoBulk d + 1
  | .slice elems spare => uptoBulkAll elems + uptoBulkAll spare + 1
  | .agg parts => uptoBulkAll parts + 1
  | .iface _ d => uptoBulk d + 1
  | .map entries => uptoBulkEntries entries + 1
  | .held _ => 1
def uptoBulkAll {H : Type} : List (DataW H) → Nat
  | [] => 0
  | d :: r => uptoBulk d + uptoBulkAll r
def uptoBulkEntries {H : Type} : List (Lit × DataW H) → Nat
  | [] => 0
  | x :: r => uptoBulkEntry x + uptoBulkEntries r
def uptoBulkEntry {H : Type} : Lit × DataW H → Nat
  | (.string bytes, d) => bytes.length + uptoBulk d + 1
  | (_, d) => uptoBulk d + 1
 end
def uptoSmall : (H : Type) → List (DataW H) → Bool := fun _ ds => decide (uptoBulkAll ds ≤ 1048576)
def OpenSpec.upto (s : _root_.Go.ChangeSpec) : _root_.Go.OpenSpec := { _root_.Go.OpenSpec.ofChange s with cond := some uptoSmall }

/-- 'casketlaw10.DictEncodes', WHERE WHAT IT READS IS OF BULK AT MOST 1048576: true; the input reads as it did. -/
def dictEncodesUptoRow : OpenClaim := { program := "ytfnnlcmfahadhaa", sum := "07cbbfa063585675a32a1ba16501facd805e2654fde3206230a66972845e6ac0", func := "casket/casketlaw10.DictEncodes", spec := "dictEncodes", apart := false, narrowed := true }
def DictEncodesUptoSaid : Prop := dictEncodesUptoRow.holds Try.pinned (OpenSpec.upto dictEncodesSpec)

/-- 'casketlaw10.DictDecodes', WHERE WHAT IT READS IS OF BULK AT MOST 1048576: true; the input reads as it did. -/
def dictDecodesUptoRow : OpenClaim := { program := "ytfnnlcmfahadhaa", sum := "07cbbfa063585675a32a1ba16501facd805e2654fde3206230a66972845e6ac0", func := "casket/casketlaw10.DictDecodes", spec := "dictDecodes", apart := false, narrowed := true }
def DictDecodesUptoSaid : Prop := dictDecodesUptoRow.holds Try.pinned (OpenSpec.upto dictDecodesSpec)

/-- 'casketlaw10.DictBack', WHERE WHAT IT READS IS OF BULK AT MOST 1048576: true; the input reads as it did. -/
def dictBackUptoRow : OpenClaim := { program := "ytfnnlcmfahadhaa", sum := "07cbbfa063585675a32a1ba16501facd805e2654fde3206230a66972845e6ac0", func := "casket/casketlaw10.DictBack", spec := "dictBack", apart := false, narrowed := true }
def DictBackUptoSaid : Prop := dictBackUptoRow.holds Try.pinned (OpenSpec.upto dictBackSpec)

/-- 'casketlaw10.DictOnly', WHERE WHAT IT READS IS OF BULK AT MOST 1048576: true; the input reads as it did. -/
def dictOnlyUptoRow : OpenClaim := { program := "ytfnnlcmfahadhaa", sum := "07cbbfa063585675a32a1ba16501facd805e2654fde3206230a66972845e6ac0", func := "casket/casketlaw10.DictOnly", spec := "dictOnly", apart := false, narrowed := true }
def DictOnlyUptoSaid : Prop := dictOnlyUptoRow.holds Try.pinned (OpenSpec.upto dictOnlySpec)

/-- 'casketlaw10.DictNames', WHERE WHAT IT READS IS OF BULK AT MOST 1048576: true; the input reads as it did. -/
def dictNamesUptoRow : OpenClaim := { program := "ytfnnlcmfahadhaa", sum := "07cbbfa063585675a32a1ba16501facd805e2654fde3206230a66972845e6ac0", func := "casket/casketlaw10.DictNames", spec := "dictNames", apart := false, narrowed := true }
def DictNamesUptoSaid : Prop := dictNamesUptoRow.holds Try.pinned (OpenSpec.upto dictNamesSpec)

end Rows
end Go.Proofs.Ytfnnlcmfahadhaa
