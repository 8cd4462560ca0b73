/-
  No cell of these rows narrows 'for every input' (looked for: loops, veiled, ifaces, maps, wideKeys, modest, calm, conditions, laid).
  DERIVED. THE GIVEN ROWS OF THIS SEAT. 5 by the template 'for every input the law returns true; each argument reads behind the call as it read before'; 0 by the template 'total and deterministic' (their statements: YtlpejnkpkcnkmaaTotals.lean).
  GIVEN WITH THE SEED: the statements are not yours to turn. If you find one false, say at which input.
  Laid BY PROGRAM, IN A SANDBOX (cutbox-rows.mjs): the forced cells as the released guide's own fill.sh prints them over the translation 24cc95d3bc20f018… (all of the seat's roots in one cut). By AI agents, Wed Nov 11 2026. No macro, syntax, notation, axiom, sorry.
-/
import Derived.Test.YtlpejnkpkcnkmaaChecked
import GoSem.Claim
import GoSem.ClaimJoined
import GoSem.ClaimMapViews
import Derived.JoinedTies
import Derived.KernelRfl
namespace Go.Proofs.Ytlpejnkpkcnkmaa
/- THE CELL 'sum', in the pinned program and in every row, IS THE sha256 OF THE DUMP (.gsa) THAT YtlpejnkpkcnkmaaProg.lean LOADS. Nothing in Lean hashes anything: it is a label: what it is worth is what the hold of that sum in a sandbox is worth. -/
noncomputable def Try.pinned : Pinned := { name := "ytlpejnkpkcnkmaa", sum := "24cc95d3bc20f0182b9520e20f3c9f16936ef97f4b18f66ec51c9c2e02038bc2", checked := Try.checked }
namespace Rows
def none {H : Type} : Left H := { results := [], args := [] }

/-- 'casketlaw04.DeltaDoes': WHATEVER THE INPUT: true; the input reads as it did. -/
def deltaDoesSpec : ChangeSpec := { name := "deltaDoes", fn := fun _ => fun
  | [d1, d2] => { results := [.lit (.bool true)], args := [d1, d2] }
  | _ => none }
def deltaDoesRow : OpenClaim := { program := "ytlpejnkpkcnkmaa", sum := "24cc95d3bc20f0182b9520e20f3c9f16936ef97f4b18f66ec51c9c2e02038bc2", func := "casket/casketlaw04.DeltaDoes", spec := "deltaDoes", unfollowed := true, recurses := true, apart := false }
def DeltaDoesSaid : Prop := deltaDoesRow.holds Try.pinned (OpenSpec.ofChange deltaDoesSpec)

/-- ITS FALSE NEIGHBOUR: 'it returns false'. Refute it at one input. -/
def deltaDoesWrong : ChangeSpec := { name := "deltaDoes", fn := fun _ => fun
  | [d1, d2] => { results := [.lit (.bool false)], args := [d1, d2] }
  | _ => none }
def DeltaDoesWrongFalsely : Prop := deltaDoesRow.holds Try.pinned (OpenSpec.ofChange deltaDoesWrong)

/-- 'casketlaw04.DeltaBack': WHATEVER THE INPUT: true; the input reads as it did. -/
def deltaBackSpec : ChangeSpec := { name := "deltaBack", fn := fun _ => fun
  | [d1, d2] => { results := [.lit (.bool true)], args := [d1, d2] }
  | _ => none }
def deltaBackRow : OpenClaim := { program := "ytlpejnkpkcnkmaa", sum := "24cc95d3bc20f0182b9520e20f3c9f16936ef97f4b18f66ec51c9c2e02038bc2", func := "casket/casketlaw04.DeltaBack", spec := "deltaBack", unfollowed := true, recurses := true, apart := false }
def DeltaBackSaid : Prop := deltaBackRow.holds Try.pinned (OpenSpec.ofChange deltaBackSpec)

/-- ITS FALSE NEIGHBOUR: 'it returns false'. Refute it at one input. -/
def deltaBackWrong : ChangeSpec := { name := "deltaBack", fn := fun _ => fun
  | [d1, d2] => { results := [.lit (.bool false)], args := [d1, d2] }
  | _ => none }
def DeltaBackWrongFalsely : Prop := deltaBackRow.holds Try.pinned (OpenSpec.ofChange deltaBackWrong)

/-- 'casketlaw04.DeltaEven': WHATEVER THE INPUT: true; the input reads as it did. -/
def deltaEvenSpec : ChangeSpec := { name := "deltaEven", fn := fun _ => fun
  | [d1, d2, d3] => { results := [.lit (.bool true)], args := [d1, d2, d3] }
  | _ => none }
def deltaEvenRow : OpenClaim := { program := "ytlpejnkpkcnkmaa", sum := "24cc95d3bc20f0182b9520e20f3c9f16936ef97f4b18f66ec51c9c2e02038bc2", func := "casket/casketlaw04.DeltaEven", spec := "deltaEven", unfollowed := true, recurses := true, apart := false }
def DeltaEvenSaid : Prop := deltaEvenRow.holds Try.pinned (OpenSpec.ofChange deltaEvenSpec)

/-- ITS FALSE NEIGHBOUR: 'it returns false'. Refute it at one input. -/
def deltaEvenWrong : ChangeSpec := { name := "deltaEven", fn := fun _ => fun
  | [d1, d2, d3] => { results := [.lit (.bool false)], args := [d1, d2, d3] }
  | _ => none }
def DeltaEvenWrongFalsely : Prop := deltaEvenRow.holds Try.pinned (OpenSpec.ofChange deltaEvenWrong)

/-- 'casketlaw04.DeltaFirst': WHATEVER THE INPUT: true; the input reads as it did. -/
def deltaFirstSpec : ChangeSpec := { name := "deltaFirst", fn := fun _ => fun
  | [d1, d2, d3] => { results := [.lit (.bool true)], args := [d1, d2, d3] }
  | _ => none }
def deltaFirstRow : OpenClaim := { program := "ytlpejnkpkcnkmaa", sum := "24cc95d3bc20f0182b9520e20f3c9f16936ef97f4b18f66ec51c9c2e02038bc2", func := "casket/casketlaw04.DeltaFirst", spec := "deltaFirst", unfollowed := true, recurses := true, apart := false }
def DeltaFirstSaid : Prop := deltaFirstRow.holds Try.pinned (OpenSpec.ofChange deltaFirstSpec)

/-- ITS FALSE NEIGHBOUR: 'it returns false'. Refute it at one input. -/
def deltaFirstWrong : ChangeSpec := { name := "deltaFirst", fn := fun _ => fun
  | [d1, d2, d3] => { results := [.lit (.bool false)], args := [d1, d2, d3] }
  | _ => none }
def DeltaFirstWrongFalsely : Prop := deltaFirstRow.holds Try.pinned (OpenSpec.ofChange deltaFirstWrong)

/-- 'casketlaw04.DeltaMoves': WHATEVER THE INPUT: true; the input reads as it did. -/
def deltaMovesSpec : ChangeSpec := { name := "deltaMoves", fn := fun _ => fun
  | [d1, d2] => { results := [.lit (.bool true)], args := [d1, d2] }
  | _ => none }
def deltaMovesRow : OpenClaim := { program := "ytlpejnkpkcnkmaa", sum := "24cc95d3bc20f0182b9520e20f3c9f16936ef97f4b18f66ec51c9c2e02038bc2", func := "casket/casketlaw04.DeltaMoves", spec := "deltaMoves", unfollowed := true, recurses := true, apart := false }
def DeltaMovesSaid : Prop := deltaMovesRow.holds Try.pinned (OpenSpec.ofChange deltaMovesSpec)

/-- ITS FALSE NEIGHBOUR: 'it returns false'. Refute it at one input. -/
def deltaMovesWrong : ChangeSpec := { name := "deltaMoves", fn := fun _ => fun
  | [d1, d2] => { results := [.lit (.bool false)], args := [d1, d2] }
  | _ => none }
def DeltaMovesWrongFalsely : Prop := deltaMovesRow.holds Try.pinned (OpenSpec.ofChange deltaMovesWrong)

/- THE SECOND FORM. 'bulk': how many values and letters a reading holds, each counted each time it is reached (what is shared counts as often as it is met; a slice's spare places count too). A statement '..UptoSaid' is the law's where the arguments, and the package variables that the reading takes, are together of bulk at most 1048576: NARROWER than '..Said'. Prove '..Said' where nothing that the law and all that it calls make is longer than what came in: it says more and counts as full. Else prove '..UptoSaid'. A law counts once. -/
mutual
def uptoBulk {H : Type} : DataW H → Nat
  | .lit (.string bytes) => bytes.length + 1
  | .lit _ => 1
  | .nil => 1
  | .ptr d => uptoBulk d + 1
  | .slice elems spare => uptoBulkAll elems + uptoBulkAll spare + 1
  | .agg parts => uptoBulkAll parts + 1
  | .iface _ d => uptoBulk d + 1
  | .map entries => uptoBulkEntries entries + 1
  | .held _ => 1
def uptoBulkAll {H : Type} : List (DataW H) → Nat
  | [] => 0
  | d :: r => uptoBulk d + uptoBulkAll r
def uptoBulkEntries {H : Type} : List (Lit × DataW H) → Nat
  | [] => 0
  | x :: r => uptoBulkEntry x + uptoBulkEntries r
def uptoBulkEntry {H : Type} : Lit × DataW H → Nat
  | (.string bytes, d) => bytes.length + uptoBulk d + 1
  | (_, d) => uptoBulk d + 1
 end
def uptoSmall : (H : Type) → List (DataW H) → Bool := fun _ ds => decide (uptoBulkAll ds ≤ 1048576)
def OpenSpec.upto (s : _root_.Go.ChangeSpec) : _root_.Go.OpenSpec := { _root_.Go.OpenSpec.ofChange s with cond := some uptoSmall }

/-- 'casketlaw04.DeltaDoes', WHERE WHAT IT READS IS OF BULK AT MOST 1048576: true; the input reads as it did. -/
def deltaDoesUptoRow : OpenClaim := { program := "ytlpejnkpkcnkmaa", sum := "24cc95d3bc20f0182b9520e20f3c9f16936ef97f4b18f66ec51c9c2e02038bc2", func := "casket/casketlaw04.DeltaDoes", spec := "deltaDoes", unfollowed := true, recurses := true, apart := false, narrowed := true }
def DeltaDoesUptoSaid : Prop := deltaDoesUptoRow.holds Try.pinned (OpenSpec.upto deltaDoesSpec)

/-- 'casketlaw04.DeltaBack', WHERE WHAT IT READS IS OF BULK AT MOST 1048576: true; the input reads as it did. -/
def deltaBackUptoRow : OpenClaim := { program := "ytlpejnkpkcnkmaa", sum := "24cc95d3bc20f0182b9520e20f3c9f16936ef97f4b18f66ec51c9c2e02038bc2", func := "casket/casketlaw04.DeltaBack", spec := "deltaBack", unfollowed := true, recurses := true, apart := false, narrowed := true }
def DeltaBackUptoSaid : Prop := deltaBackUptoRow.holds Try.pinned (OpenSpec.upto deltaBackSpec)

/-- 'casketlaw04.DeltaEven', WHERE WHAT IT READS IS OF BULK AT MOST 1048576: true; the input reads as it did. -/
def deltaEvenUptoRow : OpenClaim := { program := "ytlpejnkpkcnkmaa", sum := "24cc95d3bc20f0182b9520e20f3c9f16936ef97f4b18f66ec51c9c2e02038bc2", func := "casket/casketlaw04.DeltaEven", spec := "deltaEven", unfollowed := true, recurses := true, apart := false, narrowed := true }
def DeltaEvenUptoSaid : Prop := deltaEvenUptoRow.holds Try.pinned (OpenSpec.upto deltaEvenSpec)

/-- 'casketlaw04.DeltaFirst', WHERE WHAT IT READS IS OF BULK AT MOST 1048576: true; the input reads as it did. -/
def deltaFirstUptoRow : OpenClaim := { program := "ytlpejnkpkcnkmaa", sum := "24cc95d3bc20f0182b9520e20f3c9f16936ef97f4b18f66ec51c9c2e02038bc2", func := "casket/casketlaw04.DeltaFirst", spec := "deltaFirst", unfollowed := true, recurses := true, apart := false, narrowed := true }
def DeltaFirstUptoSaid : Prop := deltaFirstUptoRow.holds Try.pinned (OpenSpec.upto deltaFirstSpec)

/-- 'casketlaw04.DeltaMoves', WHERE WHAT IT READS IS OF BULK AT MOST 1048576: true; the input reads as it did. -/
def deltaMovesUptoRow : OpenClaim := { program := "ytlpejnkpkcnkmaa", sum := "24cc95d3bc20f0182b9520e20f3c9f16936ef97f4b18f66ec51c9c2e02038bc2", func := "casket/casketlaw04.DeltaMoves", spec := "deltaMoves", unfollowed := true, recurses := true, apart := false, narrowed := true }
def DeltaMovesUptoSaid : Prop := deltaMovesUptoRow.holds Try.pinned (OpenSpec.upto deltaMovesSpec)

end Rows
end Go.Proofs.Ytlpejnkpkcnkmaa
