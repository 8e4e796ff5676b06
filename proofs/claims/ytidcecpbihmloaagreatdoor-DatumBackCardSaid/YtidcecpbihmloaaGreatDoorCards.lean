/-
  DERIVED. GIVEN WITH THE SEED: THE CARDS: each row of YtidcecpbihmloaaGreatDoorRows.lean that lists a variable, with what it lists TIED to the program's text (the seventh form; the later family's looks); each row that meets fmt, with fmt's text TOLD by the authors' own Lean function (tested against real Go, not proved from fmt's source: count such statements apart). THE CARD IS WHAT COUNTS. Prove the row's statement (the work); the ties are given (YtidcecpbihmloaaGreatDoorTie.lean); close each card by the builder's one call (the guide's Derived/Test/ToyasCard.lean, 'card_holds'). Laid BY PROGRAM, IN A SANDBOX (cutbox-door.mjs). By AI agents, Wed Nov 11 2026. No macro, syntax, notation, axiom, sorry.
-/
import Derived.Test.YtidcecpbihmloaaGreatDoorRows
import GoSem.ClaimSeven
namespace Go.Proofs.YtidcecpbihmloaaGreatDoor
namespace Rows

/-- THE TIED CARD OF 'tendrillaw16.DatumGets'. -/
def datumGetsCard : Claim7 := { stood := { row := datumGetsRow, standIns := [], harness := (true, "34bec7812849d10c57c46621dab0c97b719c285dbe913136db37cec4159ff9e8"), looks := true }, kinds := [], alts := [], laidByText := true, laidKinds := [.data, .data, .data, .sentinel, .sentinel], laidTests := true, laidLooks := .later }
def DatumGetsCardSaid : Prop := Claim7.holds Tryz.pinned (.plain (OpenSpec.ofChange datumGetsSpec)) datumGetsCard

/-- THE TIED CARD OF 'tendrillaw16.DatumOrder'. -/
def datumOrderCard : Claim7 := { stood := { row := datumOrderRow, standIns := [], harness := (true, "34bec7812849d10c57c46621dab0c97b719c285dbe913136db37cec4159ff9e8"), looks := true }, kinds := [], alts := [], laidByText := true, laidKinds := [.data, .data, .data, .sentinel, .sentinel], laidTests := true, laidLooks := .later }
def DatumOrderCardSaid : Prop := Claim7.holds Tryz.pinned (.plain (OpenSpec.ofChange datumOrderSpec)) datumOrderCard

/-- THE TIED CARD OF 'tendrillaw16.DatumBack'. -/
def datumBackCard : Claim7 := { stood := { row := datumBackRow, standIns := [], harness := (true, "34bec7812849d10c57c46621dab0c97b719c285dbe913136db37cec4159ff9e8"), looks := true }, kinds := [], alts := [], laidByText := true, laidKinds := [.data, .data, .data, .sentinel, .sentinel], laidTests := true, laidLooks := .later }
def DatumBackCardSaid : Prop := Claim7.holds Tryz.pinned (.plain (OpenSpec.ofChange datumBackSpec)) datumBackCard

/-- THE TIED CARD OF 'tendrillaw16.DatumReads'. -/
def datumReadsCard : Claim7 := { stood := { row := datumReadsRow, standIns := [], harness := (true, "34bec7812849d10c57c46621dab0c97b719c285dbe913136db37cec4159ff9e8"), looks := true }, kinds := [], alts := [], laidByText := true, laidKinds := [.data, .data, .data, .sentinel, .sentinel], laidTests := true, laidLooks := .later }
def DatumReadsCardSaid : Prop := Claim7.holds Tryz.pinned (.plain (OpenSpec.ofChange datumReadsSpec)) datumReadsCard

/-- THE SECOND FORM's CARD OF 'tendrillaw16.DatumGets'. -/
def datumGetsUptoCard : Claim7 := { stood := { row := datumGetsUptoRow, standIns := [], harness := (true, "34bec7812849d10c57c46621dab0c97b719c285dbe913136db37cec4159ff9e8"), looks := true }, kinds := [], alts := [], laidByText := true, laidKinds := [.data, .data, .data, .sentinel, .sentinel], laidTests := true, laidLooks := .later }
def DatumGetsUptoCardSaid : Prop := Claim7.holds Tryz.pinned (.plain (OpenSpec.upto datumGetsSpec)) datumGetsUptoCard

/-- THE SECOND FORM's CARD OF 'tendrillaw16.DatumOrder'. -/
def datumOrderUptoCard : Claim7 := { stood := { row := datumOrderUptoRow, standIns := [], harness := (true, "34bec7812849d10c57c46621dab0c97b719c285dbe913136db37cec4159ff9e8"), looks := true }, kinds := [], alts := [], laidByText := true, laidKinds := [.data, .data, .data, .sentinel, .sentinel], laidTests := true, laidLooks := .later }
def DatumOrderUptoCardSaid : Prop := Claim7.holds Tryz.pinned (.plain (OpenSpec.upto datumOrderSpec)) datumOrderUptoCard

/-- THE SECOND FORM's CARD OF 'tendrillaw16.DatumBack'. -/
def datumBackUptoCard : Claim7 := { stood := { row := datumBackUptoRow, standIns := [], harness := (true, "34bec7812849d10c57c46621dab0c97b719c285dbe913136db37cec4159ff9e8"), looks := true }, kinds := [], alts := [], laidByText := true, laidKinds := [.data, .data, .data, .sentinel, .sentinel], laidTests := true, laidLooks := .later }
def DatumBackUptoCardSaid : Prop := Claim7.holds Tryz.pinned (.plain (OpenSpec.upto datumBackSpec)) datumBackUptoCard

/-- THE SECOND FORM's CARD OF 'tendrillaw16.DatumReads'. -/
def datumReadsUptoCard : Claim7 := { stood := { row := datumReadsUptoRow, standIns := [], harness := (true, "34bec7812849d10c57c46621dab0c97b719c285dbe913136db37cec4159ff9e8"), looks := true }, kinds := [], alts := [], laidByText := true, laidKinds := [.data, .data, .data, .sentinel, .sentinel], laidTests := true, laidLooks := .later }
def DatumReadsUptoCardSaid : Prop := Claim7.holds Tryz.pinned (.plain (OpenSpec.upto datumReadsSpec)) datumReadsUptoCard
end Rows
end Go.Proofs.YtidcecpbihmloaaGreatDoor
