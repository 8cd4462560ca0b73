/-
  DERIVED. GIVEN WITH THE SEED: THE CARDS: each row of YtfpnoceppjjafaaDoorRows.lean that lists a variable, with what it lists TIED to the program's text (the seventh form; the later family's looks); each row that meets fmt, with fmt's text TOLD by the authors' own Lean function (tested against real Go, not proved from fmt's source: count such statements apart). THE CARD IS WHAT COUNTS. Prove the row's statement (the work); the ties are given (YtfpnoceppjjafaaDoorTie.lean); close each card by the builder's one call (the guide's Derived/Test/ToyasCard.lean, 'card_holds'). Laid BY PROGRAM, IN A SANDBOX (cutbox-door.mjs). By AI agents, Wed Nov 11 2026. No macro, syntax, notation, axiom, sorry.
-/
import Derived.Test.YtfpnoceppjjafaaDoorRows
import GoSem.ClaimSeven
namespace Go.Proofs.YtfpnoceppjjafaaDoor
namespace Rows

/-- THE TIED CARD OF 'casketlaw09.GorillaEncodes'. -/
def gorillaEncodesCard : Claim7 := { stood := { row := gorillaEncodesRow, standIns := [], harness := (true, "9d6fe717aba70870557321ffdb878d31c063ea35f131090cb6431b5a6a4d2339"), looks := false }, kinds := [], alts := [], laidByText := true, laidKinds := [.data], laidTests := true, laidLooks := .later }
def GorillaEncodesCardSaid : Prop := Claim7.holds Tryd.pinned (.plain (OpenSpec.ofChange gorillaEncodesSpec)) gorillaEncodesCard

/-- THE TIED CARD OF 'casketlaw09.GorillaDecodes'. -/
def gorillaDecodesCard : Claim7 := { stood := { row := gorillaDecodesRow, standIns := [], harness := (true, "9d6fe717aba70870557321ffdb878d31c063ea35f131090cb6431b5a6a4d2339"), looks := false }, kinds := [], alts := [], laidByText := true, laidKinds := [.data], laidTests := true, laidLooks := .later }
def GorillaDecodesCardSaid : Prop := Claim7.holds Tryd.pinned (.plain (OpenSpec.ofChange gorillaDecodesSpec)) gorillaDecodesCard

/-- THE TIED CARD OF 'casketlaw09.GorillaBack'. -/
def gorillaBackCard : Claim7 := { stood := { row := gorillaBackRow, standIns := [], harness := (true, "9d6fe717aba70870557321ffdb878d31c063ea35f131090cb6431b5a6a4d2339"), looks := false }, kinds := [], alts := [], laidByText := true, laidKinds := [.data], laidTests := true, laidLooks := .later }
def GorillaBackCardSaid : Prop := Claim7.holds Tryd.pinned (.plain (OpenSpec.ofChange gorillaBackSpec)) gorillaBackCard

/-- THE TIED CARD OF 'casketlaw09.GorillaOnly'. -/
def gorillaOnlyCard : Claim7 := { stood := { row := gorillaOnlyRow, standIns := [], harness := (true, "9d6fe717aba70870557321ffdb878d31c063ea35f131090cb6431b5a6a4d2339"), looks := false }, kinds := [], alts := [], laidByText := true, laidKinds := [.data], laidTests := true, laidLooks := .later }
def GorillaOnlyCardSaid : Prop := Claim7.holds Tryd.pinned (.plain (OpenSpec.ofChange gorillaOnlySpec)) gorillaOnlyCard

/-- THE TIED CARD OF 'casketlaw09.GorillaMasks'. -/
def gorillaMasksCard : Claim7 := { stood := { row := gorillaMasksRow, standIns := [], harness := (true, "9d6fe717aba70870557321ffdb878d31c063ea35f131090cb6431b5a6a4d2339"), looks := false }, kinds := [], alts := [], laidByText := true, laidKinds := [.data], laidTests := true, laidLooks := .later }
def GorillaMasksCardSaid : Prop := Claim7.holds Tryd.pinned (.plain (OpenSpec.ofChange gorillaMasksSpec)) gorillaMasksCard

/-- THE TIED CARD OF 'casketlaw09.GorillaOne'. -/
def gorillaOneCard : Claim7 := { stood := { row := gorillaOneRow, standIns := [], harness := (true, "9d6fe717aba70870557321ffdb878d31c063ea35f131090cb6431b5a6a4d2339"), looks := false }, kinds := [], alts := [], laidByText := true, laidKinds := [.data], laidTests := true, laidLooks := .later }
def GorillaOneCardSaid : Prop := Claim7.holds Tryd.pinned (.plain (OpenSpec.ofChange gorillaOneSpec)) gorillaOneCard

/-- THE SECOND FORM's CARD OF 'casketlaw09.GorillaEncodes'. -/
def gorillaEncodesUptoCard : Claim7 := { stood := { row := gorillaEncodesUptoRow, standIns := [], harness := (true, "9d6fe717aba70870557321ffdb878d31c063ea35f131090cb6431b5a6a4d2339"), looks := false }, kinds := [], alts := [], laidByText := true, laidKinds := [.data], laidTests := true, laidLooks := .later }
def GorillaEncodesUptoCardSaid : Prop := Claim7.holds Tryd.pinned (.plain (OpenSpec.upto gorillaEncodesSpec)) gorillaEncodesUptoCard

/-- THE SECOND FORM's CARD OF 'casketlaw09.GorillaDecodes'. -/
def gorillaDecodesUptoCard : Claim7 := { stood := { row := gorillaDecodesUptoRow, standIns := [], harness := (true, "9d6fe717aba70870557321ffdb878d31c063ea35f131090cb6431b5a6a4d2339"), looks := false }, kinds := [], alts := [], laidByText := true, laidKinds := [.data], laidTests := true, laidLooks := .later }
def GorillaDecodesUptoCardSaid : Prop := Claim7.holds Tryd.pinned (.plain (OpenSpec.upto gorillaDecodesSpec)) gorillaDecodesUptoCard

/-- THE SECOND FORM's CARD OF 'casketlaw09.GorillaBack'. -/
def gorillaBackUptoCard : Claim7 := { stood := { row := gorillaBackUptoRow, standIns := [], harness := (true, "9d6fe717aba70870557321ffdb878d31c063ea35f131090cb6431b5a6a4d2339"), looks := false }, kinds := [], alts := [], laidByText := true, laidKinds := [.data], laidTests := true, laidLooks := .later }
def GorillaBackUptoCardSaid : Prop := Claim7.holds Tryd.pinned (.plain (OpenSpec.upto gorillaBackSpec)) gorillaBackUptoCard

/-- THE SECOND FORM's CARD OF 'casketlaw09.GorillaOnly'. -/
def gorillaOnlyUptoCard : Claim7 := { stood := { row := gorillaOnlyUptoRow, standIns := [], harness := (true, "9d6fe717aba70870557321ffdb878d31c063ea35f131090cb6431b5a6a4d2339"), looks := false }, kinds := [], alts := [], laidByText := true, laidKinds := [.data], laidTests := true, laidLooks := .later }
def GorillaOnlyUptoCardSaid : Prop := Claim7.holds Tryd.pinned (.plain (OpenSpec.upto gorillaOnlySpec)) gorillaOnlyUptoCard

/-- THE SECOND FORM's CARD OF 'casketlaw09.GorillaMasks'. -/
def gorillaMasksUptoCard : Claim7 := { stood := { row := gorillaMasksUptoRow, standIns := [], harness := (true, "9d6fe717aba70870557321ffdb878d31c063ea35f131090cb6431b5a6a4d2339"), looks := false }, kinds := [], alts := [], laidByText := true, laidKinds := [.data], laidTests := true, laidLooks := .later }
def GorillaMasksUptoCardSaid : Prop := Claim7.holds Tryd.pinned (.plain (OpenSpec.upto gorillaMasksSpec)) gorillaMasksUptoCard

/-- THE SECOND FORM's CARD OF 'casketlaw09.GorillaOne'. -/
def gorillaOneUptoCard : Claim7 := { stood := { row := gorillaOneUptoRow, standIns := [], harness := (true, "9d6fe717aba70870557321ffdb878d31c063ea35f131090cb6431b5a6a4d2339"), looks := false }, kinds := [], alts := [], laidByText := true, laidKinds := [.data], laidTests := true, laidLooks := .later }
def GorillaOneUptoCardSaid : Prop := Claim7.holds Tryd.pinned (.plain (OpenSpec.upto gorillaOneSpec)) gorillaOneUptoCard
end Rows
end Go.Proofs.YtfpnoceppjjafaaDoor
