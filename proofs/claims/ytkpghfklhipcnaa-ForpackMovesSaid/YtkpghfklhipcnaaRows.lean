/-
  No cell of these rows narrows 'for every input' (looked for: loops, veiled, ifaces, maps, wideKeys, modest, calm, conditions, laid).
  DERIVED. THE GIVEN ROWS OF THIS SEAT. 6 by the template 'for every input the law returns true; each argument reads behind the call as it read before'; 0 by the template 'total and deterministic' (their statements: YtkpghfklhipcnaaTotals.lean).
  GIVEN WITH THE SEED: the statements are not yours to turn. If you find one false, say at which input.
  Laid BY PROGRAM, IN A SANDBOX (cutbox-rows.mjs): the forced cells as the released guide's own fill.sh prints them over the translation 547aad3c7b752948… (all of the seat's roots in one cut). By AI agents, Wed Nov 11 2026. No macro, syntax, notation, axiom, sorry.
-/
import Derived.Test.YtkpghfklhipcnaaChecked
import GoSem.Claim
import GoSem.ClaimJoined
import GoSem.ClaimMapViews
import Derived.JoinedTies
import Derived.KernelRfl
namespace Go.Proofs.Ytkpghfklhipcnaa
/- THE CELL 'sum', in the pinned program and in every row, IS THE sha256 OF THE DUMP (.gsa) THAT YtkpghfklhipcnaaProg.lean LOADS. Nothing in Lean hashes anything: it is a label: what it is worth is what the hold of that sum in a sandbox is worth. -/
noncomputable def Try.pinned : Pinned := { name := "ytkpghfklhipcnaa", sum := "547aad3c7b75294828ed3943c1f9a8f8d18e2a2f9bcdc6c302a4cb5af693c270", checked := Try.checked }
namespace Rows
def none {H : Type} : Left H := { results := [], args := [] }

/-- 'casketlaw05.ForpackPacks': WHATEVER THE INPUT: true; the input reads as it did. -/
def forpackPacksSpec : ChangeSpec := { name := "forpackPacks", fn := fun _ => fun
  | [d] => { results := [.lit (.bool true)], args := [d] }
  | _ => none }
def forpackPacksRow : OpenClaim := { program := "ytkpghfklhipcnaa", sum := "547aad3c7b75294828ed3943c1f9a8f8d18e2a2f9bcdc6c302a4cb5af693c270", func := "casket/casketlaw05.ForpackPacks", spec := "forpackPacks", unfollowed := true, recurses := true, apart := false }
def ForpackPacksSaid : Prop := forpackPacksRow.holds Try.pinned (OpenSpec.ofChange forpackPacksSpec)

/-- ITS FALSE NEIGHBOUR: 'it returns false'. Refute it at one input. -/
def forpackPacksWrong : ChangeSpec := { name := "forpackPacks", fn := fun _ => fun
  | [d] => { results := [.lit (.bool false)], args := [d] }
  | _ => none }
def ForpackPacksWrongFalsely : Prop := forpackPacksRow.holds Try.pinned (OpenSpec.ofChange forpackPacksWrong)

/-- 'casketlaw05.ForpackUnpacks': WHATEVER THE INPUT: true; the input reads as it did. -/
def forpackUnpacksSpec : ChangeSpec := { name := "forpackUnpacks", fn := fun _ => fun
  | [d1, d2] => { results := [.lit (.bool true)], args := [d1, d2] }
  | _ => none }
def forpackUnpacksRow : OpenClaim := { program := "ytkpghfklhipcnaa", sum := "547aad3c7b75294828ed3943c1f9a8f8d18e2a2f9bcdc6c302a4cb5af693c270", func := "casket/casketlaw05.ForpackUnpacks", spec := "forpackUnpacks", unfollowed := true, recurses := true, apart := false }
def ForpackUnpacksSaid : Prop := forpackUnpacksRow.holds Try.pinned (OpenSpec.ofChange forpackUnpacksSpec)

/-- ITS FALSE NEIGHBOUR: 'it returns false'. Refute it at one input. -/
def forpackUnpacksWrong : ChangeSpec := { name := "forpackUnpacks", fn := fun _ => fun
  | [d1, d2] => { results := [.lit (.bool false)], args := [d1, d2] }
  | _ => none }
def ForpackUnpacksWrongFalsely : Prop := forpackUnpacksRow.holds Try.pinned (OpenSpec.ofChange forpackUnpacksWrong)

/-- 'casketlaw05.ForpackBack': WHATEVER THE INPUT: true; the input reads as it did. -/
def forpackBackSpec : ChangeSpec := { name := "forpackBack", fn := fun _ => fun
  | [d1, d2] => { results := [.lit (.bool true)], args := [d1, d2] }
  | _ => none }
def forpackBackRow : OpenClaim := { program := "ytkpghfklhipcnaa", sum := "547aad3c7b75294828ed3943c1f9a8f8d18e2a2f9bcdc6c302a4cb5af693c270", func := "casket/casketlaw05.ForpackBack", spec := "forpackBack", unfollowed := true, recurses := true, apart := false }
def ForpackBackSaid : Prop := forpackBackRow.holds Try.pinned (OpenSpec.ofChange forpackBackSpec)

/-- ITS FALSE NEIGHBOUR: 'it returns false'. Refute it at one input. -/
def forpackBackWrong : ChangeSpec := { name := "forpackBack", fn := fun _ => fun
  | [d1, d2] => { results := [.lit (.bool false)], args := [d1, d2] }
  | _ => none }
def ForpackBackWrongFalsely : Prop := forpackBackRow.holds Try.pinned (OpenSpec.ofChange forpackBackWrong)

/-- 'casketlaw05.ForpackOnly': WHATEVER THE INPUT: true; the input reads as it did. -/
def forpackOnlySpec : ChangeSpec := { name := "forpackOnly", fn := fun _ => fun
  | [d1, d2] => { results := [.lit (.bool true)], args := [d1, d2] }
  | _ => none }
def forpackOnlyRow : OpenClaim := { program := "ytkpghfklhipcnaa", sum := "547aad3c7b75294828ed3943c1f9a8f8d18e2a2f9bcdc6c302a4cb5af693c270", func := "casket/casketlaw05.ForpackOnly", spec := "forpackOnly", unfollowed := true, recurses := true, apart := false }
def ForpackOnlySaid : Prop := forpackOnlyRow.holds Try.pinned (OpenSpec.ofChange forpackOnlySpec)

/-- ITS FALSE NEIGHBOUR: 'it returns false'. Refute it at one input. -/
def forpackOnlyWrong : ChangeSpec := { name := "forpackOnly", fn := fun _ => fun
  | [d1, d2] => { results := [.lit (.bool false)], args := [d1, d2] }
  | _ => none }
def ForpackOnlyWrongFalsely : Prop := forpackOnlyRow.holds Try.pinned (OpenSpec.ofChange forpackOnlyWrong)

/-- 'casketlaw05.ForpackMoves': WHATEVER THE INPUT: true; the input reads as it did. -/
def forpackMovesSpec : ChangeSpec := { name := "forpackMoves", fn := fun _ => fun
  | [d1, d2] => { results := [.lit (.bool true)], args := [d1, d2] }
  | _ => none }
def forpackMovesRow : OpenClaim := { program := "ytkpghfklhipcnaa", sum := "547aad3c7b75294828ed3943c1f9a8f8d18e2a2f9bcdc6c302a4cb5af693c270", func := "casket/casketlaw05.ForpackMoves", spec := "forpackMoves", unfollowed := true, recurses := true, apart := false }
def ForpackMovesSaid : Prop := forpackMovesRow.holds Try.pinned (OpenSpec.ofChange forpackMovesSpec)

/-- ITS FALSE NEIGHBOUR: 'it returns false'. Refute it at one input. -/
def forpackMovesWrong : ChangeSpec := { name := "forpackMoves", fn := fun _ => fun
  | [d1, d2] => { results := [.lit (.bool false)], args := [d1, d2] }
  | _ => none }
def ForpackMovesWrongFalsely : Prop := forpackMovesRow.holds Try.pinned (OpenSpec.ofChange forpackMovesWrong)

/-- 'casketlaw05.ForpackSame': WHATEVER THE INPUT: true; the input reads as it did. -/
def forpackSameSpec : ChangeSpec := { name := "forpackSame", fn := fun _ => fun
  | [d1, d2] => { results := [.lit (.bool true)], args := [d1, d2] }
  | _ => none }
def forpackSameRow : OpenClaim := { program := "ytkpghfklhipcnaa", sum := "547aad3c7b75294828ed3943c1f9a8f8d18e2a2f9bcdc6c302a4cb5af693c270", func := "casket/casketlaw05.ForpackSame", spec := "forpackSame", unfollowed := true, recurses := true, apart := false }
def ForpackSameSaid : Prop := forpackSameRow.holds Try.pinned (OpenSpec.ofChange forpackSameSpec)

/-- ITS FALSE NEIGHBOUR: 'it returns false'. Refute it at one input. -/
def forpackSameWrong : ChangeSpec := { name := "forpackSame", fn := fun _ => fun
  | [d1, d2] => { results := [.lit (.bool false)], args := [d1, d2] }
  | _ => none }
def ForpackSameWrongFalsely : Prop := forpackSameRow.holds Try.pinned (OpenSpec.ofChange forpackSameWrong)

/- THE SECOND FORM. 'bulk': how many values and letters a reading holds, each counted each time it is reached (what is shared counts as often as it is met; a slice's spare places count too). A statement '..UptoSaid' is the law's where the arguments, and the package variables that the reading takes, are together of bulk at most 1048576: NARROWER than '..Said'. Prove '..Said' where nothing that the law and all that it calls make is longer than what came in: it says more and counts as full. Else prove '..UptoSaid'. A law counts once. -/
mutual
def uptoBulk {H : Type} : DataW H → Nat
  | .lit (.string bytes) => bytes.length + 1
  | .lit _ => 1
  | .nil => 1
  | .ptr d => uptoBulk d + 1
  | .slice elems spare => uptoBulkAll elems + uptoBulkAll spare + 1
  | .agg parts => uptoBulkAll parts + 1
  | .iface _ d => uptoBulk d + 1
  | .map entries => uptoBulkEntries entries + 1
  | .held _ => 1
def uptoBulkAll {H : Type} : List (DataW H) → Nat
  | [] => 0
  | d :: r => uptoBulk d + uptoBulkAll r
def uptoBulkEntries {H : Type} : List (Lit × DataW H) → Nat
  | [] => 0
  | x :: r => uptoBulkEntry x + uptoBulkEntries r
def uptoBulkEntry {H : Type} : Lit × DataW H → Nat
  | (.string bytes, d) => bytes.length + uptoBulk d + 1
  | (_, d) => uptoBulk d + 1
 end
def uptoSmall : (H : Type) → List (DataW H) → Bool := fun _ ds => decide (uptoBulkAll ds ≤ 1048576)
def OpenSpec.upto (s : _root_.Go.ChangeSpec) : _root_.Go.OpenSpec := { _root_.Go.OpenSpec.ofChange s with cond := some uptoSmall }

/-- 'casketlaw05.ForpackPacks', WHERE WHAT IT READS IS OF BULK AT MOST 1048576: true; the input reads as it did. -/
def forpackPacksUptoRow : OpenClaim := { program := "ytkpghfklhipcnaa", sum := "547aad3c7b75294828ed3943c1f9a8f8d18e2a2f9bcdc6c302a4cb5af693c270", func := "casket/casketlaw05.ForpackPacks", spec := "forpackPacks", unfollowed := true, recurses := true, apart := false, narrowed := true }
def ForpackPacksUptoSaid : Prop := forpackPacksUptoRow.holds Try.pinned (OpenSpec.upto forpackPacksSpec)

/-- 'casketlaw05.ForpackUnpacks', WHERE WHAT IT READS IS OF BULK AT MOST 1048576: true; the input reads as it did. -/
def forpackUnpacksUptoRow : OpenClaim := { program := "ytkpghfklhipcnaa", sum := "547aad3c7b75294828ed3943c1f9a8f8d18e2a2f9bcdc6c302a4cb5af693c270", func := "casket/casketlaw05.ForpackUnpacks", spec := "forpackUnpacks", unfollowed := true, recurses := true, apart := false, narrowed := true }
def ForpackUnpacksUptoSaid : Prop := forpackUnpacksUptoRow.holds Try.pinned (OpenSpec.upto forpackUnpacksSpec)

/-- 'casketlaw05.ForpackBack', WHERE WHAT IT READS IS OF BULK AT MOST 1048576: true; the input reads as it did. -/
def forpackBackUptoRow : OpenClaim := { program := "ytkpghfklhipcnaa", sum := "547aad3c7b75294828ed3943c1f9a8f8d18e2a2f9bcdc6c302a4cb5af693c270", func := "casket/casketlaw05.ForpackBack", spec := "forpackBack", unfollowed := true, recurses := true, apart := false, narrowed := true }
def ForpackBackUptoSaid : Prop := forpackBackUptoRow.holds Try.pinned (OpenSpec.upto forpackBackSpec)

/-- 'casketlaw05.ForpackOnly', WHERE WHAT IT READS IS OF BULK AT MOST 1048576: true; the input reads as it did. -/
def forpackOnlyUptoRow : OpenClaim := { program := "ytkpghfklhipcnaa", sum := "547aad3c7b75294828ed3943c1f9a8f8d18e2a2f9bcdc6c302a4cb5af693c270", func := "casket/casketlaw05.ForpackOnly", spec := "forpackOnly", unfollowed := true, recurses := true, apart := false, narrowed := true }
def ForpackOnlyUptoSaid : Prop := forpackOnlyUptoRow.holds Try.pinned (OpenSpec.upto forpackOnlySpec)

/-- 'casketlaw05.ForpackMoves', WHERE WHAT IT READS IS OF BULK AT MOST 1048576: true; the input reads as it did. -/
def forpackMovesUptoRow : OpenClaim := { program := "ytkpghfklhipcnaa", sum := "547aad3c7b75294828ed3943c1f9a8f8d18e2a2f9bcdc6c302a4cb5af693c270", func := "casket/casketlaw05.ForpackMoves", spec := "forpackMoves", unfollowed := true, recurses := true, apart := false, narrowed := true }
def ForpackMovesUptoSaid : Prop := forpackMovesUptoRow.holds Try.pinned (OpenSpec.upto forpackMovesSpec)

/-- 'casketlaw05.ForpackSame', WHERE WHAT IT READS IS OF BULK AT MOST 1048576: true; the input reads as it did. -/
def forpackSameUptoRow : OpenClaim := { program := "ytkpghfklhipcnaa", sum := "547aad3c7b75294828ed3943c1f9a8f8d18e2a2f9bcdc6c302a4cb5af693c270", func := "casket/casketlaw05.ForpackSame", spec := "forpackSame", unfollowed := true, recurses := true, apart := false, narrowed := true }
def ForpackSameUptoSaid : Prop := forpackSameUptoRow.holds Try.pinned (OpenSpec.upto forpackSameSpec)

end Rows
end Go.Proofs.Ytkpghfklhipcnaa
