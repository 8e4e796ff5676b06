/-
  DERIVED. GIVEN WITH THE SEED: THE CARDS: each row of YtgdemingopcgaaaDoorRows.lean that lists a variable, with what it lists TIED to the program's text (the seventh form; the later family's looks); each row that meets fmt, with fmt's text TOLD by the authors' own Lean function (tested against real Go, not proved from fmt's source: count such statements apart). THE CARD IS WHAT COUNTS. Prove the row's statement (the work); the ties are given (YtgdemingopcgaaaDoorTie.lean); close each card by the builder's one call (the guide's Derived/Test/ToyasCard.lean, 'card_holds'). Laid BY PROGRAM, IN A SANDBOX (cutbox-door.mjs). By AI agents, Wed Nov 11 2026. No macro, syntax, notation, axiom, sorry.
-/
import Derived.Test.YtgdemingopcgaaaDoorRows
import GoSem.ClaimSeven
namespace Go.Proofs.YtgdemingopcgaaaDoor
namespace Rows

/-- THE TIED CARD OF 'tendrillaw25.OpsBack'. -/
def opsBackCard : Claim7 := { stood := { row := opsBackRow, standIns := [], harness := (true, "42f0e876574351ba2eaad250de890cb96006ddaed74d1005af392a94fdb30365"), looks := true }, kinds := [], alts := [], laidByText := true, laidKinds := [.data, .data, .data, .sentinel, .sentinel, .widerDeep], laidTests := true, laidLooks := .later }
def OpsBackCardSaid : Prop := Claim7.holds Tryd.pinned (.plain (OpenSpec.ofChange opsBackSpec)) opsBackCard

/-- THE TIED CARD OF 'tendrillaw25.OpsReads'. -/
def opsReadsCard : Claim7 := { stood := { row := opsReadsRow, standIns := [], harness := (true, "42f0e876574351ba2eaad250de890cb96006ddaed74d1005af392a94fdb30365"), looks := true }, kinds := [], alts := [], laidByText := true, laidKinds := [.data, .data, .data, .sentinel, .sentinel, .widerDeep], laidTests := true, laidLooks := .later }
def OpsReadsCardSaid : Prop := Claim7.holds Tryd.pinned (.plain (OpenSpec.ofChange opsReadsSpec)) opsReadsCard

/-- THE TIED CARD OF 'tendrillaw25.OpsChecks'. -/
def opsChecksCard : Claim7 := { stood := { row := opsChecksRow, standIns := [], harness := (true, "42f0e876574351ba2eaad250de890cb96006ddaed74d1005af392a94fdb30365"), looks := true }, kinds := [], alts := [], laidByText := true, laidKinds := [.data, .data, .data, .sentinel, .sentinel, .widerDeep], laidTests := true, laidLooks := .later }
def OpsChecksCardSaid : Prop := Claim7.holds Tryd.pinned (.plain (OpenSpec.ofChange opsChecksSpec)) opsChecksCard

/-- THE SECOND FORM's CARD OF 'tendrillaw25.OpsBack'. -/
def opsBackUptoCard : Claim7 := { stood := { row := opsBackUptoRow, standIns := [], harness := (true, "42f0e876574351ba2eaad250de890cb96006ddaed74d1005af392a94fdb30365"), looks := true }, kinds := [], alts := [], laidByText := true, laidKinds := [.data, .data, .data, .sentinel, .sentinel, .widerDeep], laidTests := true, laidLooks := .later }
def OpsBackUptoCardSaid : Prop := Claim7.holds Tryd.pinned (.plain (OpenSpec.upto opsBackSpec)) opsBackUptoCard

/-- THE SECOND FORM's CARD OF 'tendrillaw25.OpsReads'. -/
def opsReadsUptoCard : Claim7 := { stood := { row := opsReadsUptoRow, standIns := [], harness := (true, "42f0e876574351ba2eaad250de890cb96006ddaed74d1005af392a94fdb30365"), looks := true }, kinds := [], alts := [], laidByText := true, laidKinds := [.data, .data, .data, .sentinel, .sentinel, .widerDeep], laidTests := true, laidLooks := .later }
def OpsReadsUptoCardSaid : Prop := Claim7.holds Tryd.pinned (.plain (OpenSpec.upto opsReadsSpec)) opsReadsUptoCard

/-- THE SECOND FORM's CARD OF 'tendrillaw25.OpsChecks'. -/
def opsChecksUptoCard : Claim7 := { stood := { row := opsChecksUptoRow, standIns := [], harness := (true, "42f0e876574351ba2eaad250de890cb96006ddaed74d1005af392a94fdb30365"), looks := true }, kinds := [], alts := [], laidByText := true, laidKinds := [.data, .data, .data, .sentinel, .sentinel, .widerDeep], laidTests := true, laidLooks := .later }
def OpsChecksUptoCardSaid : Prop := Claim7.holds Tryd.pinned (.plain (OpenSpec.upto opsChecksSpec)) opsChecksUptoCard
end Rows
end Go.Proofs.YtgdemingopcgaaaDoor
