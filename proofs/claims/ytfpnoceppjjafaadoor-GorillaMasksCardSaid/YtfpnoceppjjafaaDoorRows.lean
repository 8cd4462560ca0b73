/-
  NARROWER THAN 'FOR EVERY INPUT', by the rows' own cells (each row's printed sentence says how): GorillaEncodes: laid · GorillaDecodes: laid · GorillaBack: laid · GorillaOnly: laid · GorillaMasks: laid · GorillaOne: laid.
  DERIVED. THE GIVEN ROWS OF THIS SEAT. 6 by the template 'for every input the law returns true; each argument reads behind the call as it read before'; 0 by the template 'total and deterministic' (their statements: YtfpnoceppjjafaaDoorTotals.lean).
  GIVEN WITH THE SEED: the statements are not yours to turn. If you find one false, say at which input.
  Laid BY PROGRAM, IN A SANDBOX (cutbox-rows.mjs): the forced cells as the released guide's own fill.sh prints them over the translation d5f202e1956fa7e9… (all of the seat's roots in one cut). By AI agents, Wed Nov 11 2026. No macro, syntax, notation, axiom, sorry.
-/
import Derived.Test.YtfpnoceppjjafaaDoorChecked
import GoSem.Claim
import GoSem.ClaimJoined
import GoSem.ClaimMapViews
import Derived.JoinedTies
import Derived.KernelRfl
namespace Go.Proofs.YtfpnoceppjjafaaDoor
/- THE CELL 'sum', in the pinned program and in every row, IS THE sha256 OF THE DUMP (.gsa) THAT YtfpnoceppjjafaaDoorProg.lean LOADS. Nothing in Lean hashes anything: it is a label: what it is worth is what the hold of that sum in a sandbox is worth. -/
noncomputable def Tryd.pinned : Pinned := { name := "ytfpnoceppjjafaadoor", sum := "d5f202e1956fa7e925b75e21364b0fc74673ef10ca33c55268b60ce1dc242dac", checked := Tryd.checked }
namespace Rows
def none {H : Type} : Left H := { results := [], args := [] }

/- WHAT THE LISTED PACKAGE-LEVEL VARIABLES READ AS WHEN THE CALL BEGINS. Each datum BY PROGRAM (the guide's laid-datum.mjs) off the statement by which the dump's own 'gosem.cut.vars' lays the variable. In a bare row this is a premise. The card (YtfpnoceppjjafaaDoorCards.lean) ties it to the program's text. -/
def laid_math_bits_deBruijn64tab {H : Type} : DataW H := .agg [.lit (.int .u8 0), .lit (.int .u8 1), .lit (.int .u8 56), .lit (.int .u8 2), .lit (.int .u8 57), .lit (.int .u8 49), .lit (.int .u8 28), .lit (.int .u8 3), .lit (.int .u8 61), .lit (.int .u8 58), .lit (.int .u8 42), .lit (.int .u8 50), .lit (.int .u8 38), .lit (.int .u8 29), .lit (.int .u8 17), .lit (.int .u8 4), .lit (.int .u8 62), .lit (.int .u8 47), .lit (.int .u8 59), .lit (.int .u8 36), .lit (.int .u8 45), .lit (.int .u8 43), .lit (.int .u8 51), .lit (.int .u8 22), .lit (.int .u8 53), .lit (.int .u8 39), .lit (.int .u8 33), .lit (.int .u8 30), .lit (.int .u8 24), .lit (.int .u8 18), .lit (.int .u8 12), .lit (.int .u8 5), .lit (.int .u8 63), .lit (.int .u8 55), .lit (.int .u8 48), .lit (.int .u8 27), .lit (.int .u8 60), .lit (.int .u8 41), .lit (.int .u8 37), .lit (.int .u8 16), .lit (.int .u8 46), .lit (.int .u8 35), .lit (.int .u8 44), .lit (.int .u8 21), .lit (.int .u8 52), .lit (.int .u8 32), .lit (.int .u8 23), .lit (.int .u8 11), .lit (.int .u8 54), .lit (.int .u8 26), .lit (.int .u8 40), .lit (.int .u8 15), .lit (.int .u8 34), .lit (.int .u8 20), .lit (.int .u8 31), .lit (.int .u8 10), .lit (.int .u8 25), .lit (.int .u8 14), .lit (.int .u8 19), .lit (.int .u8 9), .lit (.int .u8 13), .lit (.int .u8 8), .lit (.int .u8 7), .lit (.int .u8 6)]

/-- 'casketlaw09.GorillaEncodes': WHATEVER THE INPUT: true; the input reads as it did. -/
def gorillaEncodesSpec : ChangeSpec := { name := "gorillaEncodes", fn := fun _ => fun
  | [d] => { results := [.lit (.bool true)], args := [d] }
  | _ => none }
def gorillaEncodesRow : OpenClaim := { program := "ytfpnoceppjjafaadoor", sum := "d5f202e1956fa7e925b75e21364b0fc74673ef10ca33c55268b60ce1dc242dac", func := "casket/casketlaw09.GorillaEncodes", spec := "gorillaEncodes", named := ["math/bits.deBruijn64tab"], apart := false, laid := [("math/bits.deBruijn64tab", laid_math_bits_deBruijn64tab)] }
def GorillaEncodesSaid : Prop := gorillaEncodesRow.holds Tryd.pinned (OpenSpec.ofChange gorillaEncodesSpec)

/-- ITS FALSE NEIGHBOUR: 'it returns false'. Refute it at one input. -/
def gorillaEncodesWrong : ChangeSpec := { name := "gorillaEncodes", fn := fun _ => fun
  | [d] => { results := [.lit (.bool false)], args := [d] }
  | _ => none }
def GorillaEncodesWrongFalsely : Prop := gorillaEncodesRow.holds Tryd.pinned (OpenSpec.ofChange gorillaEncodesWrong)

/-- 'casketlaw09.GorillaDecodes': WHATEVER THE INPUT: true; the input reads as it did. -/
def gorillaDecodesSpec : ChangeSpec := { name := "gorillaDecodes", fn := fun _ => fun
  | [d1, d2] => { results := [.lit (.bool true)], args := [d1, d2] }
  | _ => none }
def gorillaDecodesRow : OpenClaim := { program := "ytfpnoceppjjafaadoor", sum := "d5f202e1956fa7e925b75e21364b0fc74673ef10ca33c55268b60ce1dc242dac", func := "casket/casketlaw09.GorillaDecodes", spec := "gorillaDecodes", named := ["math/bits.deBruijn64tab"], apart := false, laid := [("math/bits.deBruijn64tab", laid_math_bits_deBruijn64tab)] }
def GorillaDecodesSaid : Prop := gorillaDecodesRow.holds Tryd.pinned (OpenSpec.ofChange gorillaDecodesSpec)

/-- ITS FALSE NEIGHBOUR: 'it returns false'. Refute it at one input. -/
def gorillaDecodesWrong : ChangeSpec := { name := "gorillaDecodes", fn := fun _ => fun
  | [d1, d2] => { results := [.lit (.bool false)], args := [d1, d2] }
  | _ => none }
def GorillaDecodesWrongFalsely : Prop := gorillaDecodesRow.holds Tryd.pinned (OpenSpec.ofChange gorillaDecodesWrong)

/-- 'casketlaw09.GorillaBack': WHATEVER THE INPUT: true; the input reads as it did. -/
def gorillaBackSpec : ChangeSpec := { name := "gorillaBack", fn := fun _ => fun
  | [d1, d2, d3] => { results := [.lit (.bool true)], args := [d1, d2, d3] }
  | _ => none }
def gorillaBackRow : OpenClaim := { program := "ytfpnoceppjjafaadoor", sum := "d5f202e1956fa7e925b75e21364b0fc74673ef10ca33c55268b60ce1dc242dac", func := "casket/casketlaw09.GorillaBack", spec := "gorillaBack", named := ["math/bits.deBruijn64tab"], apart := false, laid := [("math/bits.deBruijn64tab", laid_math_bits_deBruijn64tab)] }
def GorillaBackSaid : Prop := gorillaBackRow.holds Tryd.pinned (OpenSpec.ofChange gorillaBackSpec)

/-- ITS FALSE NEIGHBOUR: 'it returns false'. Refute it at one input. -/
def gorillaBackWrong : ChangeSpec := { name := "gorillaBack", fn := fun _ => fun
  | [d1, d2, d3] => { results := [.lit (.bool false)], args := [d1, d2, d3] }
  | _ => none }
def GorillaBackWrongFalsely : Prop := gorillaBackRow.holds Tryd.pinned (OpenSpec.ofChange gorillaBackWrong)

/-- 'casketlaw09.GorillaOnly': WHATEVER THE INPUT: true; the input reads as it did. -/
def gorillaOnlySpec : ChangeSpec := { name := "gorillaOnly", fn := fun _ => fun
  | [d1, d2] => { results := [.lit (.bool true)], args := [d1, d2] }
  | _ => none }
def gorillaOnlyRow : OpenClaim := { program := "ytfpnoceppjjafaadoor", sum := "d5f202e1956fa7e925b75e21364b0fc74673ef10ca33c55268b60ce1dc242dac", func := "casket/casketlaw09.GorillaOnly", spec := "gorillaOnly", named := ["math/bits.deBruijn64tab"], apart := false, laid := [("math/bits.deBruijn64tab", laid_math_bits_deBruijn64tab)] }
def GorillaOnlySaid : Prop := gorillaOnlyRow.holds Tryd.pinned (OpenSpec.ofChange gorillaOnlySpec)

/-- ITS FALSE NEIGHBOUR: 'it returns false'. Refute it at one input. -/
def gorillaOnlyWrong : ChangeSpec := { name := "gorillaOnly", fn := fun _ => fun
  | [d1, d2] => { results := [.lit (.bool false)], args := [d1, d2] }
  | _ => none }
def GorillaOnlyWrongFalsely : Prop := gorillaOnlyRow.holds Tryd.pinned (OpenSpec.ofChange gorillaOnlyWrong)

/-- 'casketlaw09.GorillaMasks': WHATEVER THE INPUT: true; the input reads as it did. -/
def gorillaMasksSpec : ChangeSpec := { name := "gorillaMasks", fn := fun _ => fun
  | [d1, d2, d3] => { results := [.lit (.bool true)], args := [d1, d2, d3] }
  | _ => none }
def gorillaMasksRow : OpenClaim := { program := "ytfpnoceppjjafaadoor", sum := "d5f202e1956fa7e925b75e21364b0fc74673ef10ca33c55268b60ce1dc242dac", func := "casket/casketlaw09.GorillaMasks", spec := "gorillaMasks", named := ["math/bits.deBruijn64tab"], apart := false, laid := [("math/bits.deBruijn64tab", laid_math_bits_deBruijn64tab)] }
def GorillaMasksSaid : Prop := gorillaMasksRow.holds Tryd.pinned (OpenSpec.ofChange gorillaMasksSpec)

/-- ITS FALSE NEIGHBOUR: 'it returns false'. Refute it at one input. -/
def gorillaMasksWrong : ChangeSpec := { name := "gorillaMasks", fn := fun _ => fun
  | [d1, d2, d3] => { results := [.lit (.bool false)], args := [d1, d2, d3] }
  | _ => none }
def GorillaMasksWrongFalsely : Prop := gorillaMasksRow.holds Tryd.pinned (OpenSpec.ofChange gorillaMasksWrong)

/-- 'casketlaw09.GorillaOne': WHATEVER THE INPUT: true; the input reads as it did. -/
def gorillaOneSpec : ChangeSpec := { name := "gorillaOne", fn := fun _ => fun
  | [d1, d2] => { results := [.lit (.bool true)], args := [d1, d2] }
  | _ => none }
def gorillaOneRow : OpenClaim := { program := "ytfpnoceppjjafaadoor", sum := "d5f202e1956fa7e925b75e21364b0fc74673ef10ca33c55268b60ce1dc242dac", func := "casket/casketlaw09.GorillaOne", spec := "gorillaOne", named := ["math/bits.deBruijn64tab"], apart := false, laid := [("math/bits.deBruijn64tab", laid_math_bits_deBruijn64tab)] }
def GorillaOneSaid : Prop := gorillaOneRow.holds Tryd.pinned (OpenSpec.ofChange gorillaOneSpec)

/-- ITS FALSE NEIGHBOUR: 'it returns false'. Refute it at one input. -/
def gorillaOneWrong : ChangeSpec := { name := "gorillaOne", fn := fun _ => fun
  | [d1, d2] => { results := [.lit (.bool false)], args := [d1, d2] }
  | _ => none }
def GorillaOneWrongFalsely : Prop := gorillaOneRow.holds Tryd.pinned (OpenSpec.ofChange gorillaOneWrong)

/- THE SECOND FORM. 'bulk': how many values and letters a reading holds, each counted each time it is reached (what is shared counts as often as it is met; a slice's spare places count too). A statement '..UptoSaid' is the law's where the arguments, and the package variables that the reading takes, are together of bulk at most 1048576: NARROWER than '..Said'. Prove '..Said' where nothing that the law and all that it calls make is longer than what came in: it says more and counts as full. Else prove '..UptoSaid'. A law counts once. -/
mutual
def uptoBulk {H : Type} : DataW H → Nat
  | .lit (.string bytes) => bytes.length + 1
  | .lit _ => 1
  | .nil => 1
  | .ptr d => uptoBulk d + 1
  | .slice elems spare => uptoBulkAll elems + uptoBulkAll spare + 1
  | .agg parts => uptoBulkAll parts + 1
  | .iface _ d => uptoBulk d + 1
  | .map entries => uptoBulkEntries entries + 1
  | .held _ => 1
def uptoBulkAll {H : Type} : List (DataW H) → Nat
  | [] => 0
  | d :: r => uptoBulk d + uptoBulkAll r
def uptoBulkEntries {H : Type} : List (Lit × DataW H) → Nat
  | [] => 0
  | x :: r => uptoBulkEntry x + uptoBulkEntries r
def uptoBulkEntry {H : Type} : Lit × DataW H → Nat
  | (.string bytes, d) => bytes.length + uptoBulk d + 1
  | (_, d) => uptoBulk d + 1
 end
def uptoSmall : (H : Type) → List (DataW H) → Bool := fun _ ds => decide (uptoBulkAll ds ≤ 1048576)
def OpenSpec.upto (s : _root_.Go.ChangeSpec) : _root_.Go.OpenSpec := { _root_.Go.OpenSpec.ofChange s with cond := some uptoSmall }

/-- 'casketlaw09.GorillaEncodes', WHERE WHAT IT READS IS OF BULK AT MOST 1048576: true; the input reads as it did. -/
def gorillaEncodesUptoRow : OpenClaim := { program := "ytfpnoceppjjafaadoor", sum := "d5f202e1956fa7e925b75e21364b0fc74673ef10ca33c55268b60ce1dc242dac", func := "casket/casketlaw09.GorillaEncodes", spec := "gorillaEncodes", named := ["math/bits.deBruijn64tab"], apart := false, laid := [("math/bits.deBruijn64tab", laid_math_bits_deBruijn64tab)], narrowed := true }
def GorillaEncodesUptoSaid : Prop := gorillaEncodesUptoRow.holds Tryd.pinned (OpenSpec.upto gorillaEncodesSpec)

/-- 'casketlaw09.GorillaDecodes', WHERE WHAT IT READS IS OF BULK AT MOST 1048576: true; the input reads as it did. -/
def gorillaDecodesUptoRow : OpenClaim := { program := "ytfpnoceppjjafaadoor", sum := "d5f202e1956fa7e925b75e21364b0fc74673ef10ca33c55268b60ce1dc242dac", func := "casket/casketlaw09.GorillaDecodes", spec := "gorillaDecodes", named := ["math/bits.deBruijn64tab"], apart := false, laid := [("math/bits.deBruijn64tab", laid_math_bits_deBruijn64tab)], narrowed := true }
def GorillaDecodesUptoSaid : Prop := gorillaDecodesUptoRow.holds Tryd.pinned (OpenSpec.upto gorillaDecodesSpec)

/-- 'casketlaw09.GorillaBack', WHERE WHAT IT READS IS OF BULK AT MOST 1048576: true; the input reads as it did. -/
def gorillaBackUptoRow : OpenClaim := { program := "ytfpnoceppjjafaadoor", sum := "d5f202e1956fa7e925b75e21364b0fc74673ef10ca33c55268b60ce1dc242dac", func := "casket/casketlaw09.GorillaBack", spec := "gorillaBack", named := ["math/bits.deBruijn64tab"], apart := false, laid := [("math/bits.deBruijn64tab", laid_math_bits_deBruijn64tab)], narrowed := true }
def GorillaBackUptoSaid : Prop := gorillaBackUptoRow.holds Tryd.pinned (OpenSpec.upto gorillaBackSpec)

/-- 'casketlaw09.GorillaOnly', WHERE WHAT IT READS IS OF BULK AT MOST 1048576: true; the input reads as it did. -/
def gorillaOnlyUptoRow : OpenClaim := { program := "ytfpnoceppjjafaadoor", sum := "d5f202e1956fa7e925b75e21364b0fc74673ef10ca33c55268b60ce1dc242dac", func := "casket/casketlaw09.GorillaOnly", spec := "gorillaOnly", named := ["math/bits.deBruijn64tab"], apart := false, laid := [("math/bits.deBruijn64tab", laid_math_bits_deBruijn64tab)], narrowed := true }
def GorillaOnlyUptoSaid : Prop := gorillaOnlyUptoRow.holds Tryd.pinned (OpenSpec.upto gorillaOnlySpec)

/-- 'casketlaw09.GorillaMasks', WHERE WHAT IT READS IS OF BULK AT MOST 1048576: true; the input reads as it did. -/
def gorillaMasksUptoRow : OpenClaim := { program := "ytfpnoceppjjafaadoor", sum := "d5f202e1956fa7e925b75e21364b0fc74673ef10ca33c55268b60ce1dc242dac", func := "casket/casketlaw09.GorillaMasks", spec := "gorillaMasks", named := ["math/bits.deBruijn64tab"], apart := false, laid := [("math/bits.deBruijn64tab", laid_math_bits_deBruijn64tab)], narrowed := true }
def GorillaMasksUptoSaid : Prop := gorillaMasksUptoRow.holds Tryd.pinned (OpenSpec.upto gorillaMasksSpec)

/-- 'casketlaw09.GorillaOne', WHERE WHAT IT READS IS OF BULK AT MOST 1048576: true; the input reads as it did. -/
def gorillaOneUptoRow : OpenClaim := { program := "ytfpnoceppjjafaadoor", sum := "d5f202e1956fa7e925b75e21364b0fc74673ef10ca33c55268b60ce1dc242dac", func := "casket/casketlaw09.GorillaOne", spec := "gorillaOne", named := ["math/bits.deBruijn64tab"], apart := false, laid := [("math/bits.deBruijn64tab", laid_math_bits_deBruijn64tab)], narrowed := true }
def GorillaOneUptoSaid : Prop := gorillaOneUptoRow.holds Tryd.pinned (OpenSpec.upto gorillaOneSpec)

end Rows
end Go.Proofs.YtfpnoceppjjafaaDoor
