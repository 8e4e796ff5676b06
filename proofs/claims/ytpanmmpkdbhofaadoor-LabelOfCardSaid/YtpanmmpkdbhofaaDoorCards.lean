/-
  DERIVED. GIVEN WITH THE SEED: THE CARDS: each row of YtpanmmpkdbhofaaDoorRows.lean that lists a variable, with what it lists TIED to the program's text (the seventh form; the later family's looks); each row that meets fmt, with fmt's text TOLD by the authors' own Lean function (tested against real Go, not proved from fmt's source: count such statements apart). THE CARD IS WHAT COUNTS. Prove the row's statement (the work); the ties are given (YtpanmmpkdbhofaaDoorTie.lean); close each card by the builder's one call (the guide's Derived/Test/ToyasCard.lean, 'card_holds'). Laid BY PROGRAM, IN A SANDBOX (cutbox-door.mjs). By AI agents, Wed Nov 11 2026. No macro, syntax, notation, axiom, sorry.
-/
import Derived.Test.YtpanmmpkdbhofaaDoorRows
import GoSem.ClaimSeven
namespace Go.Proofs.YtpanmmpkdbhofaaDoor
namespace Rows

/-- THE TIED CARD OF 'tendrillaw02.CharsWords'. -/
def charsWordsCard : Claim7 := { stood := { row := charsWordsRow, standIns := [], harness := (true, "f34a13f7a2e572fe92dfbbe1cc8ea8881f651b4747b1b2d7c1466721f57ac486"), looks := true }, kinds := [], alts := [], laidByText := true, laidKinds := [.data, .data, .data, .sentinel, .sentinel], laidTests := true, laidLooks := .later }
def CharsWordsCardSaid : Prop := Claim7.holds Tryd.pinned (.plain (OpenSpec.ofChange charsWordsSpec)) charsWordsCard

/-- THE TIED CARD OF 'tendrillaw02.CharsNumbers'. -/
def charsNumbersCard : Claim7 := { stood := { row := charsNumbersRow, standIns := [], harness := (true, "f34a13f7a2e572fe92dfbbe1cc8ea8881f651b4747b1b2d7c1466721f57ac486"), looks := true }, kinds := [], alts := [], laidByText := true, laidKinds := [.data, .data, .data, .sentinel, .sentinel], laidTests := true, laidLooks := .later }
def CharsNumbersCardSaid : Prop := Claim7.holds Tryd.pinned (.plain (OpenSpec.ofChange charsNumbersSpec)) charsNumbersCard

/-- THE TIED CARD OF 'tendrillaw02.CharsKinds'. -/
def charsKindsCard : Claim7 := { stood := { row := charsKindsRow, standIns := [], harness := (true, "f34a13f7a2e572fe92dfbbe1cc8ea8881f651b4747b1b2d7c1466721f57ac486"), looks := true }, kinds := [], alts := [], laidByText := true, laidKinds := [.data, .data, .data, .sentinel, .sentinel], laidTests := true, laidLooks := .later }
def CharsKindsCardSaid : Prop := Claim7.holds Tryd.pinned (.plain (OpenSpec.ofChange charsKindsSpec)) charsKindsCard

/-- THE TIED CARD OF 'tendrillaw02.CharsPairs'. -/
def charsPairsCard : Claim7 := { stood := { row := charsPairsRow, standIns := [], harness := (true, "f34a13f7a2e572fe92dfbbe1cc8ea8881f651b4747b1b2d7c1466721f57ac486"), looks := true }, kinds := [], alts := [], laidByText := true, laidKinds := [.data, .data, .data, .sentinel, .sentinel], laidTests := true, laidLooks := .later }
def CharsPairsCardSaid : Prop := Claim7.holds Tryd.pinned (.plain (OpenSpec.ofChange charsPairsSpec)) charsPairsCard

/-- THE TIED CARD OF 'tendrillaw03.EscapeOnly'. -/
def escapeOnlyCard : Claim7 := { stood := { row := escapeOnlyRow, standIns := [], harness := (true, "f34a13f7a2e572fe92dfbbe1cc8ea8881f651b4747b1b2d7c1466721f57ac486"), looks := true }, kinds := [], alts := [], laidByText := true, laidKinds := [.data, .data, .data, .sentinel, .sentinel], laidTests := true, laidLooks := .later }
def EscapeOnlyCardSaid : Prop := Claim7.holds Tryd.pinned (.plain (OpenSpec.ofChange escapeOnlySpec)) escapeOnlyCard

/-- THE TIED CARD OF 'tendrillaw03.EscapeReads'. -/
def escapeReadsCard : Claim7 := { stood := { row := escapeReadsRow, standIns := [], harness := (true, "f34a13f7a2e572fe92dfbbe1cc8ea8881f651b4747b1b2d7c1466721f57ac486"), looks := true }, kinds := [], alts := [], laidByText := true, laidKinds := [.data, .data, .data, .sentinel, .sentinel], laidTests := true, laidLooks := .later }
def EscapeReadsCardSaid : Prop := Claim7.holds Tryd.pinned (.plain (OpenSpec.ofChange escapeReadsSpec)) escapeReadsCard

/-- THE TIED CARD OF 'tendrillaw03.EscapeBack'. -/
def escapeBackCard : Claim7 := { stood := { row := escapeBackRow, standIns := [], harness := (true, "f34a13f7a2e572fe92dfbbe1cc8ea8881f651b4747b1b2d7c1466721f57ac486"), looks := true }, kinds := [], alts := [], laidByText := true, laidKinds := [.data, .data, .data, .sentinel, .sentinel], laidTests := true, laidLooks := .later }
def EscapeBackCardSaid : Prop := Claim7.holds Tryd.pinned (.plain (OpenSpec.ofChange escapeBackSpec)) escapeBackCard

/-- THE TIED CARD OF 'tendrillaw12.LabelOf'. -/
def labelOfCard : Claim7 := { stood := { row := labelOfRow, standIns := [], harness := (true, "f34a13f7a2e572fe92dfbbe1cc8ea8881f651b4747b1b2d7c1466721f57ac486"), looks := true }, kinds := [], alts := [], laidByText := true, laidKinds := [.data, .data, .data, .sentinel, .sentinel], laidTests := true, laidLooks := .later }
def LabelOfCardSaid : Prop := Claim7.holds Tryd.pinned (.plain (OpenSpec.ofChange labelOfSpec)) labelOfCard

/-- THE TIED CARD OF 'tendrillaw12.LabelTexts'. -/
def labelTextsCard : Claim7 := { stood := { row := labelTextsRow, standIns := [], harness := (true, "f34a13f7a2e572fe92dfbbe1cc8ea8881f651b4747b1b2d7c1466721f57ac486"), looks := true }, kinds := [], alts := [], laidByText := true, laidKinds := [.data, .data, .data, .sentinel, .sentinel], laidTests := true, laidLooks := .later }
def LabelTextsCardSaid : Prop := Claim7.holds Tryd.pinned (.plain (OpenSpec.ofChange labelTextsSpec)) labelTextsCard

/-- THE TIED CARD OF 'tendrillaw12.LabelKept'. -/
def labelKeptCard : Claim7 := { stood := { row := labelKeptRow, standIns := [], harness := (true, "f34a13f7a2e572fe92dfbbe1cc8ea8881f651b4747b1b2d7c1466721f57ac486"), looks := true }, kinds := [], alts := [], laidByText := true, laidKinds := [.data, .data, .data, .sentinel, .sentinel], laidTests := true, laidLooks := .later }
def LabelKeptCardSaid : Prop := Claim7.holds Tryd.pinned (.plain (OpenSpec.ofChange labelKeptSpec)) labelKeptCard

/-- THE SECOND FORM's CARD OF 'tendrillaw02.CharsWords'. -/
def charsWordsUptoCard : Claim7 := { stood := { row := charsWordsUptoRow, standIns := [], harness := (true, "f34a13f7a2e572fe92dfbbe1cc8ea8881f651b4747b1b2d7c1466721f57ac486"), looks := true }, kinds := [], alts := [], laidByText := true, laidKinds := [.data, .data, .data, .sentinel, .sentinel], laidTests := true, laidLooks := .later }
def CharsWordsUptoCardSaid : Prop := Claim7.holds Tryd.pinned (.plain (OpenSpec.upto charsWordsSpec)) charsWordsUptoCard

/-- THE SECOND FORM's CARD OF 'tendrillaw02.CharsNumbers'. -/
def charsNumbersUptoCard : Claim7 := { stood := { row := charsNumbersUptoRow, standIns := [], harness := (true, "f34a13f7a2e572fe92dfbbe1cc8ea8881f651b4747b1b2d7c1466721f57ac486"), looks := true }, kinds := [], alts := [], laidByText := true, laidKinds := [.data, .data, .data, .sentinel, .sentinel], laidTests := true, laidLooks := .later }
def CharsNumbersUptoCardSaid : Prop := Claim7.holds Tryd.pinned (.plain (OpenSpec.upto charsNumbersSpec)) charsNumbersUptoCard

/-- THE SECOND FORM's CARD OF 'tendrillaw02.CharsKinds'. -/
def charsKindsUptoCard : Claim7 := { stood := { row := charsKindsUptoRow, standIns := [], harness := (true, "f34a13f7a2e572fe92dfbbe1cc8ea8881f651b4747b1b2d7c1466721f57ac486"), looks := true }, kinds := [], alts := [], laidByText := true, laidKinds := [.data, .data, .data, .sentinel, .sentinel], laidTests := true, laidLooks := .later }
def CharsKindsUptoCardSaid : Prop := Claim7.holds Tryd.pinned (.plain (OpenSpec.upto charsKindsSpec)) charsKindsUptoCard

/-- THE SECOND FORM's CARD OF 'tendrillaw02.CharsPairs'. -/
def charsPairsUptoCard : Claim7 := { stood := { row := charsPairsUptoRow, standIns := [], harness := (true, "f34a13f7a2e572fe92dfbbe1cc8ea8881f651b4747b1b2d7c1466721f57ac486"), looks := true }, kinds := [], alts := [], laidByText := true, laidKinds := [.data, .data, .data, .sentinel, .sentinel], laidTests := true, laidLooks := .later }
def CharsPairsUptoCardSaid : Prop := Claim7.holds Tryd.pinned (.plain (OpenSpec.upto charsPairsSpec)) charsPairsUptoCard

/-- THE SECOND FORM's CARD OF 'tendrillaw03.EscapeOnly'. -/
def escapeOnlyUptoCard : Claim7 := { stood := { row := escapeOnlyUptoRow, standIns := [], harness := (true, "f34a13f7a2e572fe92dfbbe1cc8ea8881f651b4747b1b2d7c1466721f57ac486"), looks := true }, kinds := [], alts := [], laidByText := true, laidKinds := [.data, .data, .data, .sentinel, .sentinel], laidTests := true, laidLooks := .later }
def EscapeOnlyUptoCardSaid : Prop := Claim7.holds Tryd.pinned (.plain (OpenSpec.upto escapeOnlySpec)) escapeOnlyUptoCard

/-- THE SECOND FORM's CARD OF 'tendrillaw03.EscapeReads'. -/
def escapeReadsUptoCard : Claim7 := { stood := { row := escapeReadsUptoRow, standIns := [], harness := (true, "f34a13f7a2e572fe92dfbbe1cc8ea8881f651b4747b1b2d7c1466721f57ac486"), looks := true }, kinds := [], alts := [], laidByText := true, laidKinds := [.data, .data, .data, .sentinel, .sentinel], laidTests := true, laidLooks := .later }
def EscapeReadsUptoCardSaid : Prop := Claim7.holds Tryd.pinned (.plain (OpenSpec.upto escapeReadsSpec)) escapeReadsUptoCard

/-- THE SECOND FORM's CARD OF 'tendrillaw03.EscapeBack'. -/
def escapeBackUptoCard : Claim7 := { stood := { row := escapeBackUptoRow, standIns := [], harness := (true, "f34a13f7a2e572fe92dfbbe1cc8ea8881f651b4747b1b2d7c1466721f57ac486"), looks := true }, kinds := [], alts := [], laidByText := true, laidKinds := [.data, .data, .data, .sentinel, .sentinel], laidTests := true, laidLooks := .later }
def EscapeBackUptoCardSaid : Prop := Claim7.holds Tryd.pinned (.plain (OpenSpec.upto escapeBackSpec)) escapeBackUptoCard

/-- THE SECOND FORM's CARD OF 'tendrillaw12.LabelOf'. -/
def labelOfUptoCard : Claim7 := { stood := { row := labelOfUptoRow, standIns := [], harness := (true, "f34a13f7a2e572fe92dfbbe1cc8ea8881f651b4747b1b2d7c1466721f57ac486"), looks := true }, kinds := [], alts := [], laidByText := true, laidKinds := [.data, .data, .data, .sentinel, .sentinel], laidTests := true, laidLooks := .later }
def LabelOfUptoCardSaid : Prop := Claim7.holds Tryd.pinned (.plain (OpenSpec.upto labelOfSpec)) labelOfUptoCard

/-- THE SECOND FORM's CARD OF 'tendrillaw12.LabelTexts'. -/
def labelTextsUptoCard : Claim7 := { stood := { row := labelTextsUptoRow, standIns := [], harness := (true, "f34a13f7a2e572fe92dfbbe1cc8ea8881f651b4747b1b2d7c1466721f57ac486"), looks := true }, kinds := [], alts := [], laidByText := true, laidKinds := [.data, .data, .data, .sentinel, .sentinel], laidTests := true, laidLooks := .later }
def LabelTextsUptoCardSaid : Prop := Claim7.holds Tryd.pinned (.plain (OpenSpec.upto labelTextsSpec)) labelTextsUptoCard

/-- THE SECOND FORM's CARD OF 'tendrillaw12.LabelKept'. -/
def labelKeptUptoCard : Claim7 := { stood := { row := labelKeptUptoRow, standIns := [], harness := (true, "f34a13f7a2e572fe92dfbbe1cc8ea8881f651b4747b1b2d7c1466721f57ac486"), looks := true }, kinds := [], alts := [], laidByText := true, laidKinds := [.data, .data, .data, .sentinel, .sentinel], laidTests := true, laidLooks := .later }
def LabelKeptUptoCardSaid : Prop := Claim7.holds Tryd.pinned (.plain (OpenSpec.upto labelKeptSpec)) labelKeptUptoCard
end Rows
end Go.Proofs.YtpanmmpkdbhofaaDoor
