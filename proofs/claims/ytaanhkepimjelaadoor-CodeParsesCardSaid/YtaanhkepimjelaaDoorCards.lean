/-
  DERIVED. GIVEN WITH THE SEED: THE CARDS: each row of YtaanhkepimjelaaDoorRows.lean that lists a variable, with what it lists TIED to the program's text (the seventh form; the later family's looks); each row that meets fmt, with fmt's text TOLD by the authors' own Lean function (tested against real Go, not proved from fmt's source: count such statements apart). THE CARD IS WHAT COUNTS. Prove the row's statement (the work); the ties are given (YtaanhkepimjelaaDoorTie.lean); close each card by the builder's one call (the guide's Derived/Test/ToyasCard.lean, 'card_holds'). Laid BY PROGRAM, IN A SANDBOX (cutbox-door.mjs). By AI agents, Wed Nov 11 2026. No macro, syntax, notation, axiom, sorry.
-/
import Derived.Test.YtaanhkepimjelaaDoorRows
import GoSem.ClaimSeven
namespace Go.Proofs.YtaanhkepimjelaaDoor
namespace Rows

/-- THE TIED CARD OF 'dispatcherlaw05.CodeWay'. -/
def codeWayCard : Claim7 := { stood := { row := codeWayRow, standIns := [], harness := (true, "9aabdf37dcf61742b81217e50e5bffc44d61ded4baf7349bd084bf9a0ec81df9"), looks := true }, kinds := [], alts := [], laidByText := true, laidKinds := [.data, .data, .data, .widerDeep], laidTests := true, laidLooks := .later }
def CodeWayCardSaid : Prop := Claim7.holds Tryd.pinned (.plain (OpenSpec.ofChange codeWaySpec)) codeWayCard

/-- THE TIED CARD OF 'dispatcherlaw05.CodeUnseen'. -/
def codeUnseenCard : Claim7 := { stood := { row := codeUnseenRow, standIns := [], harness := (true, "9aabdf37dcf61742b81217e50e5bffc44d61ded4baf7349bd084bf9a0ec81df9"), looks := true }, kinds := [], alts := [], laidByText := true, laidKinds := [.data, .data, .data, .widerDeep], laidTests := true, laidLooks := .later }
def CodeUnseenCardSaid : Prop := Claim7.holds Tryd.pinned (.plain (OpenSpec.ofChange codeUnseenSpec)) codeUnseenCard

/-- THE TIED CARD OF 'dispatcherlaw05.CodeMore'. -/
def codeMoreCard : Claim7 := { stood := { row := codeMoreRow, standIns := [], harness := (true, "9aabdf37dcf61742b81217e50e5bffc44d61ded4baf7349bd084bf9a0ec81df9"), looks := true }, kinds := [], alts := [], laidByText := true, laidKinds := [.data, .data, .data, .widerDeep], laidTests := true, laidLooks := .later }
def CodeMoreCardSaid : Prop := Claim7.holds Tryd.pinned (.plain (OpenSpec.ofChange codeMoreSpec)) codeMoreCard

/-- THE TIED CARD OF 'dispatcherlaw05.CodeTells'. -/
def codeTellsCard : Claim7 := { stood := { row := codeTellsRow, standIns := [], harness := (true, "9aabdf37dcf61742b81217e50e5bffc44d61ded4baf7349bd084bf9a0ec81df9"), looks := true }, kinds := [], alts := [], laidByText := true, laidKinds := [.data, .data, .data, .widerDeep], laidTests := true, laidLooks := .later }
def CodeTellsCardSaid : Prop := Claim7.holds Tryd.pinned (.plain (OpenSpec.ofChange codeTellsSpec)) codeTellsCard

/-- THE TIED CARD OF 'dispatcherlaw05.CodeParses'. -/
def codeParsesCard : Claim7 := { stood := { row := codeParsesRow, standIns := [], harness := (true, "9aabdf37dcf61742b81217e50e5bffc44d61ded4baf7349bd084bf9a0ec81df9"), looks := true }, kinds := [], alts := [], laidByText := true, laidKinds := [.data, .data, .data, .data, .sentinel, .sentinel, .listed, .data, .widerDeep, .pinned], laidTests := true, laidLooks := .later }
def CodeParsesCardSaid : Prop := Claim7.holds Tryd.pinned (.plain (OpenSpec.ofChange codeParsesSpec)) codeParsesCard

/-- THE TIED CARD OF 'dispatcherlaw05.CodeBack'. -/
def codeBackCard : Claim7 := { stood := { row := codeBackRow, standIns := [], harness := (true, "9aabdf37dcf61742b81217e50e5bffc44d61ded4baf7349bd084bf9a0ec81df9"), looks := true }, kinds := [], alts := [], laidByText := true, laidKinds := [.data, .data, .data, .data, .sentinel, .sentinel, .listed, .data, .widerDeep, .pinned], laidTests := true, laidLooks := .later }
def CodeBackCardSaid : Prop := Claim7.holds Tryd.pinned (.plain (OpenSpec.ofChange codeBackSpec)) codeBackCard

/-- THE SECOND FORM's CARD OF 'dispatcherlaw05.CodeWay'. -/
def codeWayUptoCard : Claim7 := { stood := { row := codeWayUptoRow, standIns := [], harness := (true, "9aabdf37dcf61742b81217e50e5bffc44d61ded4baf7349bd084bf9a0ec81df9"), looks := true }, kinds := [], alts := [], laidByText := true, laidKinds := [.data, .data, .data, .widerDeep], laidTests := true, laidLooks := .later }
def CodeWayUptoCardSaid : Prop := Claim7.holds Tryd.pinned (.plain (OpenSpec.upto codeWaySpec)) codeWayUptoCard

/-- THE SECOND FORM's CARD OF 'dispatcherlaw05.CodeUnseen'. -/
def codeUnseenUptoCard : Claim7 := { stood := { row := codeUnseenUptoRow, standIns := [], harness := (true, "9aabdf37dcf61742b81217e50e5bffc44d61ded4baf7349bd084bf9a0ec81df9"), looks := true }, kinds := [], alts := [], laidByText := true, laidKinds := [.data, .data, .data, .widerDeep], laidTests := true, laidLooks := .later }
def CodeUnseenUptoCardSaid : Prop := Claim7.holds Tryd.pinned (.plain (OpenSpec.upto codeUnseenSpec)) codeUnseenUptoCard

/-- THE SECOND FORM's CARD OF 'dispatcherlaw05.CodeMore'. -/
def codeMoreUptoCard : Claim7 := { stood := { row := codeMoreUptoRow, standIns := [], harness := (true, "9aabdf37dcf61742b81217e50e5bffc44d61ded4baf7349bd084bf9a0ec81df9"), looks := true }, kinds := [], alts := [], laidByText := true, laidKinds := [.data, .data, .data, .widerDeep], laidTests := true, laidLooks := .later }
def CodeMoreUptoCardSaid : Prop := Claim7.holds Tryd.pinned (.plain (OpenSpec.upto codeMoreSpec)) codeMoreUptoCard

/-- THE SECOND FORM's CARD OF 'dispatcherlaw05.CodeTells'. -/
def codeTellsUptoCard : Claim7 := { stood := { row := codeTellsUptoRow, standIns := [], harness := (true, "9aabdf37dcf61742b81217e50e5bffc44d61ded4baf7349bd084bf9a0ec81df9"), looks := true }, kinds := [], alts := [], laidByText := true, laidKinds := [.data, .data, .data, .widerDeep], laidTests := true, laidLooks := .later }
def CodeTellsUptoCardSaid : Prop := Claim7.holds Tryd.pinned (.plain (OpenSpec.upto codeTellsSpec)) codeTellsUptoCard

/-- THE SECOND FORM's CARD OF 'dispatcherlaw05.CodeParses'. -/
def codeParsesUptoCard : Claim7 := { stood := { row := codeParsesUptoRow, standIns := [], harness := (true, "9aabdf37dcf61742b81217e50e5bffc44d61ded4baf7349bd084bf9a0ec81df9"), looks := true }, kinds := [], alts := [], laidByText := true, laidKinds := [.data, .data, .data, .data, .sentinel, .sentinel, .listed, .data, .widerDeep, .pinned], laidTests := true, laidLooks := .later }
def CodeParsesUptoCardSaid : Prop := Claim7.holds Tryd.pinned (.plain (OpenSpec.upto codeParsesSpec)) codeParsesUptoCard

/-- THE SECOND FORM's CARD OF 'dispatcherlaw05.CodeBack'. -/
def codeBackUptoCard : Claim7 := { stood := { row := codeBackUptoRow, standIns := [], harness := (true, "9aabdf37dcf61742b81217e50e5bffc44d61ded4baf7349bd084bf9a0ec81df9"), looks := true }, kinds := [], alts := [], laidByText := true, laidKinds := [.data, .data, .data, .data, .sentinel, .sentinel, .listed, .data, .widerDeep, .pinned], laidTests := true, laidLooks := .later }
def CodeBackUptoCardSaid : Prop := Claim7.holds Tryd.pinned (.plain (OpenSpec.upto codeBackSpec)) codeBackUptoCard
end Rows
end Go.Proofs.YtaanhkepimjelaaDoor
