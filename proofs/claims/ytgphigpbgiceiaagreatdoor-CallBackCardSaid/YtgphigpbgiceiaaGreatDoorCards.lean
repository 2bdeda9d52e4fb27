/-
  DERIVED. GIVEN WITH THE SEED: THE CARDS: each row of YtgphigpbgiceiaaGreatDoorRows.lean that lists a variable, with what it lists TIED to the program's text (the seventh form; the later family's looks); each row that meets fmt, with fmt's text TOLD by the authors' own Lean function (tested against real Go, not proved from fmt's source: count such statements apart). THE CARD IS WHAT COUNTS. Prove the row's statement (the work); the ties are given (YtgphigpbgiceiaaGreatDoorTie.lean); close each card by the builder's one call (the guide's Derived/Test/ToyasCard.lean, 'card_holds'). Laid BY PROGRAM, IN A SANDBOX (cutbox-door.mjs). By AI agents, Wed Nov 11 2026. No macro, syntax, notation, axiom, sorry.
-/
import Derived.Test.YtgphigpbgiceiaaGreatDoorRows
import GoSem.ClaimSeven
namespace Go.Proofs.YtgphigpbgiceiaaGreatDoor
namespace Rows

/-- THE TIED CARD OF 'dispatcherlaw16.CallBack'. -/
def callBackCard : Claim7 := { stood := { row := callBackRow, standIns := [], harness := (true, "ca967a4b06018b15ed21cd31c505b90f21b00d7ddd03aaae9a6ebb589378b6fa"), looks := true }, kinds := [], alts := [], laidByText := true, laidKinds := [.data, .data, .data, .data, .sentinel, .sentinel, .listed, .data, .widerDeep, .data, .widerDeep, .pinned], laidTests := true, laidLooks := .later }
def CallBackCardSaid : Prop := Claim7.holds Tryz.pinned (.plain (OpenSpec.ofChange callBackSpec)) callBackCard

/-- THE TIED CARD OF 'dispatcherlaw16.CallTrim'. -/
def callTrimCard : Claim7 := { stood := { row := callTrimRow, standIns := [], harness := (true, "ca967a4b06018b15ed21cd31c505b90f21b00d7ddd03aaae9a6ebb589378b6fa"), looks := true }, kinds := [], alts := [], laidByText := true, laidKinds := [.data, .data, .data, .data, .sentinel, .sentinel, .listed, .data, .widerDeep, .data, .widerDeep, .pinned], laidTests := true, laidLooks := .later }
def CallTrimCardSaid : Prop := Claim7.holds Tryz.pinned (.plain (OpenSpec.ofChange callTrimSpec)) callTrimCard

/-- THE TIED CARD OF 'dispatcherlaw16.CallOpen'. -/
def callOpenCard : Claim7 := { stood := { row := callOpenRow, standIns := [], harness := (true, "ca967a4b06018b15ed21cd31c505b90f21b00d7ddd03aaae9a6ebb589378b6fa"), looks := true }, kinds := [], alts := [], laidByText := true, laidKinds := [.data, .data, .data, .data, .sentinel, .sentinel, .listed, .data, .widerDeep, .data, .widerDeep, .pinned], laidTests := true, laidLooks := .later }
def CallOpenCardSaid : Prop := Claim7.holds Tryz.pinned (.plain (OpenSpec.ofChange callOpenSpec)) callOpenCard

/-- THE SECOND FORM's CARD OF 'dispatcherlaw16.CallBack'. -/
def callBackUptoCard : Claim7 := { stood := { row := callBackUptoRow, standIns := [], harness := (true, "ca967a4b06018b15ed21cd31c505b90f21b00d7ddd03aaae9a6ebb589378b6fa"), looks := true }, kinds := [], alts := [], laidByText := true, laidKinds := [.data, .data, .data, .data, .sentinel, .sentinel, .listed, .data, .widerDeep, .data, .widerDeep, .pinned], laidTests := true, laidLooks := .later }
def CallBackUptoCardSaid : Prop := Claim7.holds Tryz.pinned (.plain (OpenSpec.upto callBackSpec)) callBackUptoCard

/-- THE SECOND FORM's CARD OF 'dispatcherlaw16.CallTrim'. -/
def callTrimUptoCard : Claim7 := { stood := { row := callTrimUptoRow, standIns := [], harness := (true, "ca967a4b06018b15ed21cd31c505b90f21b00d7ddd03aaae9a6ebb589378b6fa"), looks := true }, kinds := [], alts := [], laidByText := true, laidKinds := [.data, .data, .data, .data, .sentinel, .sentinel, .listed, .data, .widerDeep, .data, .widerDeep, .pinned], laidTests := true, laidLooks := .later }
def CallTrimUptoCardSaid : Prop := Claim7.holds Tryz.pinned (.plain (OpenSpec.upto callTrimSpec)) callTrimUptoCard

/-- THE SECOND FORM's CARD OF 'dispatcherlaw16.CallOpen'. -/
def callOpenUptoCard : Claim7 := { stood := { row := callOpenUptoRow, standIns := [], harness := (true, "ca967a4b06018b15ed21cd31c505b90f21b00d7ddd03aaae9a6ebb589378b6fa"), looks := true }, kinds := [], alts := [], laidByText := true, laidKinds := [.data, .data, .data, .data, .sentinel, .sentinel, .listed, .data, .widerDeep, .data, .widerDeep, .pinned], laidTests := true, laidLooks := .later }
def CallOpenUptoCardSaid : Prop := Claim7.holds Tryz.pinned (.plain (OpenSpec.upto callOpenSpec)) callOpenUptoCard
end Rows
end Go.Proofs.YtgphigpbgiceiaaGreatDoor
