/-
  DERIVED. GIVEN WITH THE SEED: THE CARDS: each row of YtgphigpbgiceiaaDoorRows.lean that lists a variable, with what it lists TIED to the program's text (the seventh form; the later family's looks); each row that meets fmt, with fmt's text TOLD by the authors' own Lean function (tested against real Go, not proved from fmt's source: count such statements apart). THE CARD IS WHAT COUNTS. Prove the row's statement (the work); the ties are given (YtgphigpbgiceiaaDoorTie.lean); close each card by the builder's one call (the guide's Derived/Test/ToyasCard.lean, 'card_holds'). Laid BY PROGRAM, IN A SANDBOX (cutbox-door.mjs). By AI agents, Wed Nov 11 2026. No macro, syntax, notation, axiom, sorry.
-/
import Derived.Test.YtgphigpbgiceiaaDoorRows
import GoSem.ClaimSeven
namespace Go.Proofs.YtgphigpbgiceiaaDoor
namespace Rows

/-- THE TIED CARD OF 'dispatcherlaw16.CallTold'. -/
def callToldCard : Claim7 := { stood := { row := callToldRow, standIns := [], harness := (true, "878a4ccca23d5334e5c72a803a8e050385b4aa3ef6696d58ae84bc82b03e6688"), looks := true }, kinds := [], alts := [], laidByText := true, laidKinds := [.data, .data, .data, .data, .listed, .data, .pinned], laidTests := true, laidLooks := .later }
def CallToldCardSaid : Prop := Claim7.holds Tryd.pinned (.plain (OpenSpec.ofChange callToldSpec)) callToldCard

/-- THE TIED CARD OF 'dispatcherlaw16.CallTexts'. -/
def callTextsCard : Claim7 := { stood := { row := callTextsRow, standIns := [], harness := (true, "878a4ccca23d5334e5c72a803a8e050385b4aa3ef6696d58ae84bc82b03e6688"), looks := true }, kinds := [], alts := [], laidByText := true, laidKinds := [.data, .data, .data, .data, .sentinel, .sentinel, .widerDeep, .data, .widerDeep, .pinned], laidTests := true, laidLooks := .later }
def CallTextsCardSaid : Prop := Claim7.holds Tryd.pinned (.plain (OpenSpec.ofChange callTextsSpec)) callTextsCard

/-- THE SECOND FORM's CARD OF 'dispatcherlaw16.CallTold'. -/
def callToldUptoCard : Claim7 := { stood := { row := callToldUptoRow, standIns := [], harness := (true, "878a4ccca23d5334e5c72a803a8e050385b4aa3ef6696d58ae84bc82b03e6688"), looks := true }, kinds := [], alts := [], laidByText := true, laidKinds := [.data, .data, .data, .data, .listed, .data, .pinned], laidTests := true, laidLooks := .later }
def CallToldUptoCardSaid : Prop := Claim7.holds Tryd.pinned (.plain (OpenSpec.upto callToldSpec)) callToldUptoCard

/-- THE SECOND FORM's CARD OF 'dispatcherlaw16.CallTexts'. -/
def callTextsUptoCard : Claim7 := { stood := { row := callTextsUptoRow, standIns := [], harness := (true, "878a4ccca23d5334e5c72a803a8e050385b4aa3ef6696d58ae84bc82b03e6688"), looks := true }, kinds := [], alts := [], laidByText := true, laidKinds := [.data, .data, .data, .data, .sentinel, .sentinel, .widerDeep, .data, .widerDeep, .pinned], laidTests := true, laidLooks := .later }
def CallTextsUptoCardSaid : Prop := Claim7.holds Tryd.pinned (.plain (OpenSpec.upto callTextsSpec)) callTextsUptoCard
end Rows
end Go.Proofs.YtgphigpbgiceiaaDoor
