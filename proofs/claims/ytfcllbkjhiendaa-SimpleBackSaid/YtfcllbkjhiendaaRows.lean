/-
  No cell of these rows narrows 'for every input' (looked for: loops, veiled, ifaces, maps, wideKeys, modest, calm, conditions, laid).
  DERIVED. THE GIVEN ROWS OF THIS SEAT. 6 by the template 'for every input the law returns true; each argument reads behind the call as it read before'; 0 by the template 'total and deterministic' (their statements: YtfcllbkjhiendaaTotals.lean).
  GIVEN WITH THE SEED: the statements are not yours to turn. If you find one false, say at which input.
  Laid BY PROGRAM, IN A SANDBOX (cutbox-rows.mjs): the forced cells as the released guide's own fill.sh prints them over the translation d60e68cfe9ea5791… (all of the seat's roots in one cut). By AI agents, Wed Nov 11 2026. No macro, syntax, notation, axiom, sorry.
-/
import Derived.Test.YtfcllbkjhiendaaChecked
import GoSem.Claim
import GoSem.ClaimJoined
import GoSem.ClaimMapViews
import Derived.JoinedTies
import Derived.KernelRfl
namespace Go.Proofs.Ytfcllbkjhiendaa
/- THE CELL 'sum', in the pinned program and in every row, IS THE sha256 OF THE DUMP (.gsa) THAT YtfcllbkjhiendaaProg.lean LOADS. Nothing in Lean hashes anything: it is a label: what it is worth is what the hold of that sum in a sandbox is worth. -/
noncomputable def Try.pinned : Pinned := { name := "ytfcllbkjhiendaa", sum := "d60e68cfe9ea5791e027a2b7100198ec93d8d96e7b598101897655aa86a236f8", checked := Try.checked }
namespace Rows
def none {H : Type} : Left H := { results := [], args := [] }

/-- 'casketlaw06.SimpleEncodes': WHATEVER THE INPUT: true; the input reads as it did. -/
def simpleEncodesSpec : ChangeSpec := { name := "simpleEncodes", fn := fun _ => fun
  | [d1, d2] => { results := [.lit (.bool true)], args := [d1, d2] }
  | _ => none }
def simpleEncodesRow : OpenClaim := { program := "ytfcllbkjhiendaa", sum := "d60e68cfe9ea5791e027a2b7100198ec93d8d96e7b598101897655aa86a236f8", func := "casket/casketlaw06.SimpleEncodes", spec := "simpleEncodes", apart := false }
def SimpleEncodesSaid : Prop := simpleEncodesRow.holds Try.pinned (OpenSpec.ofChange simpleEncodesSpec)

/-- ITS FALSE NEIGHBOUR: 'it returns false'. Refute it at one input. -/
def simpleEncodesWrong : ChangeSpec := { name := "simpleEncodes", fn := fun _ => fun
  | [d1, d2] => { results := [.lit (.bool false)], args := [d1, d2] }
  | _ => none }
def SimpleEncodesWrongFalsely : Prop := simpleEncodesRow.holds Try.pinned (OpenSpec.ofChange simpleEncodesWrong)

/-- 'casketlaw06.SimpleDecodes': WHATEVER THE INPUT: true; the input reads as it did. -/
def simpleDecodesSpec : ChangeSpec := { name := "simpleDecodes", fn := fun _ => fun
  | [d1, d2] => { results := [.lit (.bool true)], args := [d1, d2] }
  | _ => none }
def simpleDecodesRow : OpenClaim := { program := "ytfcllbkjhiendaa", sum := "d60e68cfe9ea5791e027a2b7100198ec93d8d96e7b598101897655aa86a236f8", func := "casket/casketlaw06.SimpleDecodes", spec := "simpleDecodes", apart := false }
def SimpleDecodesSaid : Prop := simpleDecodesRow.holds Try.pinned (OpenSpec.ofChange simpleDecodesSpec)

/-- ITS FALSE NEIGHBOUR: 'it returns false'. Refute it at one input. -/
def simpleDecodesWrong : ChangeSpec := { name := "simpleDecodes", fn := fun _ => fun
  | [d1, d2] => { results := [.lit (.bool false)], args := [d1, d2] }
  | _ => none }
def SimpleDecodesWrongFalsely : Prop := simpleDecodesRow.holds Try.pinned (OpenSpec.ofChange simpleDecodesWrong)

/-- 'casketlaw06.SimpleBack': WHATEVER THE INPUT: true; the input reads as it did. -/
def simpleBackSpec : ChangeSpec := { name := "simpleBack", fn := fun _ => fun
  | [d1, d2] => { results := [.lit (.bool true)], args := [d1, d2] }
  | _ => none }
def simpleBackRow : OpenClaim := { program := "ytfcllbkjhiendaa", sum := "d60e68cfe9ea5791e027a2b7100198ec93d8d96e7b598101897655aa86a236f8", func := "casket/casketlaw06.SimpleBack", spec := "simpleBack", apart := false }
def SimpleBackSaid : Prop := simpleBackRow.holds Try.pinned (OpenSpec.ofChange simpleBackSpec)

/-- ITS FALSE NEIGHBOUR: 'it returns false'. Refute it at one input. -/
def simpleBackWrong : ChangeSpec := { name := "simpleBack", fn := fun _ => fun
  | [d1, d2] => { results := [.lit (.bool false)], args := [d1, d2] }
  | _ => none }
def SimpleBackWrongFalsely : Prop := simpleBackRow.holds Try.pinned (OpenSpec.ofChange simpleBackWrong)

/-- 'casketlaw06.SimpleOnly': WHATEVER THE INPUT: true; the input reads as it did. -/
def simpleOnlySpec : ChangeSpec := { name := "simpleOnly", fn := fun _ => fun
  | [d1, d2] => { results := [.lit (.bool true)], args := [d1, d2] }
  | _ => none }
def simpleOnlyRow : OpenClaim := { program := "ytfcllbkjhiendaa", sum := "d60e68cfe9ea5791e027a2b7100198ec93d8d96e7b598101897655aa86a236f8", func := "casket/casketlaw06.SimpleOnly", spec := "simpleOnly", apart := false }
def SimpleOnlySaid : Prop := simpleOnlyRow.holds Try.pinned (OpenSpec.ofChange simpleOnlySpec)

/-- ITS FALSE NEIGHBOUR: 'it returns false'. Refute it at one input. -/
def simpleOnlyWrong : ChangeSpec := { name := "simpleOnly", fn := fun _ => fun
  | [d1, d2] => { results := [.lit (.bool false)], args := [d1, d2] }
  | _ => none }
def SimpleOnlyWrongFalsely : Prop := simpleOnlyRow.holds Try.pinned (OpenSpec.ofChange simpleOnlyWrong)

/-- 'casketlaw06.SimpleWords': WHATEVER THE INPUT: true; the input reads as it did. -/
def simpleWordsSpec : ChangeSpec := { name := "simpleWords", fn := fun _ => fun
  | [d1, d2] => { results := [.lit (.bool true)], args := [d1, d2] }
  | _ => none }
def simpleWordsRow : OpenClaim := { program := "ytfcllbkjhiendaa", sum := "d60e68cfe9ea5791e027a2b7100198ec93d8d96e7b598101897655aa86a236f8", func := "casket/casketlaw06.SimpleWords", spec := "simpleWords", apart := false }
def SimpleWordsSaid : Prop := simpleWordsRow.holds Try.pinned (OpenSpec.ofChange simpleWordsSpec)

/-- ITS FALSE NEIGHBOUR: 'it returns false'. Refute it at one input. -/
def simpleWordsWrong : ChangeSpec := { name := "simpleWords", fn := fun _ => fun
  | [d1, d2] => { results := [.lit (.bool false)], args := [d1, d2] }
  | _ => none }
def SimpleWordsWrongFalsely : Prop := simpleWordsRow.holds Try.pinned (OpenSpec.ofChange simpleWordsWrong)

/-- 'casketlaw06.SimpleBehind': WHATEVER THE INPUT: true; the input reads as it did. -/
def simpleBehindSpec : ChangeSpec := { name := "simpleBehind", fn := fun _ => fun
  | [d1, d2] => { results := [.lit (.bool true)], args := [d1, d2] }
  | _ => none }
def simpleBehindRow : OpenClaim := { program := "ytfcllbkjhiendaa", sum := "d60e68cfe9ea5791e027a2b7100198ec93d8d96e7b598101897655aa86a236f8", func := "casket/casketlaw06.SimpleBehind", spec := "simpleBehind", apart := false }
def SimpleBehindSaid : Prop := simpleBehindRow.holds Try.pinned (OpenSpec.ofChange simpleBehindSpec)

/-- ITS FALSE NEIGHBOUR: 'it returns false'. Refute it at one input. -/
def simpleBehindWrong : ChangeSpec := { name := "simpleBehind", fn := fun _ => fun
  | [d1, d2] => { results := [.lit (.bool false)], args := [d1, d2] }
  | _ => none }
def SimpleBehindWrongFalsely : Prop := simpleBehindRow.holds Try.pinned (OpenSpec.ofChange simpleBehindWrong)

/- THE SECOND FORM. 'bulk': how many values and letters a reading holds, each counted each time it is reached (what is shared counts as often as it is met; a slice's spare places count too). A statement '..UptoSaid' is the law's where the arguments, and the package variables that the reading takes, are together of bulk at most 1048576: NARROWER than '..Said'. Prove '..Said' where nothing that the law and all that it calls make is longer than what came in: it says more and counts as full. Else prove '..UptoSaid'. A law counts once. -/
mutual
def uptoBulk {H : Type} : DataW H → Nat
  | .lit (.string bytes) => bytes.length + 1
  | .lit _ => 1
  | .nil => 1
  | .ptr d => uptoBulk d + 1
  | .slice elems spare => uptoBulkAll elems + uptoBulkAll spare + 1
  | .agg parts => uptoBulkAll parts + 1
  | .iface _ d => uptoBulk d + 1
  | .map entries => uptoBulkEntries entries + 1
  | .held _ => 1
def uptoBulkAll {H : Type} : List (DataW H) → Nat
  | [] => 0
  | d :: r => uptoBulk d + uptoBulkAll r
def uptoBulkEntries {H : Type} : List (Lit × DataW H) → Nat
  | [] => 0
  | x :: r => uptoBulkEntry x + uptoBulkEntries r
def uptoBulkEntry {H : Type} : Lit × DataW H → Nat
  | (.string bytes, d) => bytes.length + uptoBulk d + 1
  | (_, d) => uptoBulk d + 1
 end
def uptoSmall : (H : Type) → List (DataW H) → Bool := fun _ ds => decide (uptoBulkAll ds ≤ 1048576)
def OpenSpec.upto (s : _root_.Go.ChangeSpec) : _root_.Go.OpenSpec := { _root_.Go.OpenSpec.ofChange s with cond := some uptoSmall }

/-- 'casketlaw06.SimpleEncodes', WHERE WHAT IT READS IS OF BULK AT MOST 1048576: true; the input reads as it did. -/
def simpleEncodesUptoRow : OpenClaim := { program := "ytfcllbkjhiendaa", sum := "d60e68cfe9ea5791e027a2b7100198ec93d8d96e7b598101897655aa86a236f8", func := "casket/casketlaw06.SimpleEncodes", spec := "simpleEncodes", apart := false, narrowed := true }
def SimpleEncodesUptoSaid : Prop := simpleEncodesUptoRow.holds Try.pinned (OpenSpec.upto simpleEncodesSpec)

/-- 'casketlaw06.SimpleDecodes', WHERE WHAT IT READS IS OF BULK AT MOST 1048576: true; the input reads as it did. -/
def simpleDecodesUptoRow : OpenClaim := { program := "ytfcllbkjhiendaa", sum := "d60e68cfe9ea5791e027a2b7100198ec93d8d96e7b598101897655aa86a236f8", func := "casket/casketlaw06.SimpleDecodes", spec := "simpleDecodes", apart := false, narrowed := true }
def SimpleDecodesUptoSaid : Prop := simpleDecodesUptoRow.holds Try.pinned (OpenSpec.upto simpleDecodesSpec)

/-- 'casketlaw06.SimpleBack', WHERE WHAT IT READS IS OF BULK AT MOST 1048576: true; the input reads as it did. -/
def simpleBackUptoRow : OpenClaim := { program := "ytfcllbkjhiendaa", sum := "d60e68cfe9ea5791e027a2b7100198ec93d8d96e7b598101897655aa86a236f8", func := "casket/casketlaw06.SimpleBack", spec := "simpleBack", apart := false, narrowed := true }
def SimpleBackUptoSaid : Prop := simpleBackUptoRow.holds Try.pinned (OpenSpec.upto simpleBackSpec)

/-- 'casketlaw06.SimpleOnly', WHERE WHAT IT READS IS OF BULK AT MOST 1048576: true; the input reads as it did. -/
def simpleOnlyUptoRow : OpenClaim := { program := "ytfcllbkjhiendaa", sum := "d60e68cfe9ea5791e027a2b7100198ec93d8d96e7b598101897655aa86a236f8", func := "casket/casketlaw06.SimpleOnly", spec := "simpleOnly", apart := false, narrowed := true }
def SimpleOnlyUptoSaid : Prop := simpleOnlyUptoRow.holds Try.pinned (OpenSpec.upto simpleOnlySpec)

/-- 'casketlaw06.SimpleWords', WHERE WHAT IT READS IS OF BULK AT MOST 1048576: true; the input reads as it did. -/
def simpleWordsUptoRow : OpenClaim := { program := "ytfcllbkjhiendaa", sum := "d60e68cfe9ea5791e027a2b7100198ec93d8d96e7b598101897655aa86a236f8", func := "casket/casketlaw06.SimpleWords", spec := "simpleWords", apart := false, narrowed := true }
def SimpleWordsUptoSaid : Prop := simpleWordsUptoRow.holds Try.pinned (OpenSpec.upto simpleWordsSpec)

/-- 'casketlaw06.SimpleBehind', WHERE WHAT IT READS IS OF BULK AT MOST 1048576: true; the input reads as it did. -/
def simpleBehindUptoRow : OpenClaim := { program := "ytfcllbkjhiendaa", sum := "d60e68cfe9ea5791e027a2b7100198ec93d8d96e7b598101897655aa86a236f8", func := "casket/casketlaw06.SimpleBehind", spec := "simpleBehind", apart := false, narrowed := true }
def SimpleBehindUptoSaid : Prop := simpleBehindUptoRow.holds Try.pinned (OpenSpec.upto simpleBehindSpec)

end Rows
end Go.Proofs.Ytfcllbkjhiendaa
