/-
  DERIVED. GIVEN WITH THE SEED: THE CARDS: each row of YthddchcckpmgoaaDoorRows.lean that lists a variable, with what it lists TIED to the program's text (the seventh form; the later family's looks); each row that meets fmt, with fmt's text TOLD by the authors' own Lean function (tested against real Go, not proved from fmt's source: count such statements apart). THE CARD IS WHAT COUNTS. Prove the row's statement (the work); the ties are given (YthddchcckpmgoaaDoorTie.lean); close each card by the builder's one call (the guide's Derived/Test/ToyasCard.lean, 'card_holds'). Laid BY PROGRAM, IN A SANDBOX (cutbox-door.mjs). By AI agents, Wed Nov 11 2026. No macro, syntax, notation, axiom, sorry.
-/
import Derived.Test.YthddchcckpmgoaaDoorRows
import GoSem.ClaimSeven
namespace Go.Proofs.YthddchcckpmgoaaDoor
namespace Rows

/-- THE TIED CARD OF 'laws.FnExactVars'. -/
def fnExactVarsCard : Claim7 := { stood := { row := fnExactVarsRow, standIns := [], harness := (true, "494a57a3e8e7822a5217a26e966f0956e3ce31d3048881404e32a021a41c6d05"), looks := false }, kinds := [], alts := [], laidByText := true, laidKinds := [.data, .pinned], laidTests := true, laidLooks := .later }
def FnExactVarsCardSaid : Prop := Claim7.holds Tryd.pinned (.plain (OpenSpec.ofChange fnExactVarsSpec)) fnExactVarsCard

/-- THE TIED CARD OF 'laws.FnExactNodeOk'. -/
def fnExactNodeOkCard : Claim7 := { stood := { row := fnExactNodeOkRow, standIns := [], harness := (true, "494a57a3e8e7822a5217a26e966f0956e3ce31d3048881404e32a021a41c6d05"), looks := false }, kinds := [], alts := [], laidByText := true, laidKinds := [.data, .pinned], laidTests := true, laidLooks := .later }
def FnExactNodeOkCardSaid : Prop := Claim7.holds Tryd.pinned (.plain (OpenSpec.ofChange fnExactNodeOkSpec)) fnExactNodeOkCard

/-- THE TIED CARD OF 'laws.FnExactFuns'. -/
def fnExactFunsCard : Claim7 := { stood := { row := fnExactFunsRow, standIns := [], harness := (true, "494a57a3e8e7822a5217a26e966f0956e3ce31d3048881404e32a021a41c6d05"), looks := false }, kinds := [], alts := [], laidByText := true, laidKinds := [.data, .pinned], laidTests := true, laidLooks := .later }
def FnExactFunsCardSaid : Prop := Claim7.holds Tryd.pinned (.plain (OpenSpec.ofChange fnExactFunsSpec)) fnExactFunsCard

/-- THE SECOND FORM's CARD OF 'laws.FnExactVars'. -/
def fnExactVarsUptoCard : Claim7 := { stood := { row := fnExactVarsUptoRow, standIns := [], harness := (true, "494a57a3e8e7822a5217a26e966f0956e3ce31d3048881404e32a021a41c6d05"), looks := false }, kinds := [], alts := [], laidByText := true, laidKinds := [.data, .pinned], laidTests := true, laidLooks := .later }
def FnExactVarsUptoCardSaid : Prop := Claim7.holds Tryd.pinned (.plain (OpenSpec.upto fnExactVarsSpec)) fnExactVarsUptoCard

/-- THE SECOND FORM's CARD OF 'laws.FnExactNodeOk'. -/
def fnExactNodeOkUptoCard : Claim7 := { stood := { row := fnExactNodeOkUptoRow, standIns := [], harness := (true, "494a57a3e8e7822a5217a26e966f0956e3ce31d3048881404e32a021a41c6d05"), looks := false }, kinds := [], alts := [], laidByText := true, laidKinds := [.data, .pinned], laidTests := true, laidLooks := .later }
def FnExactNodeOkUptoCardSaid : Prop := Claim7.holds Tryd.pinned (.plain (OpenSpec.upto fnExactNodeOkSpec)) fnExactNodeOkUptoCard

/-- THE SECOND FORM's CARD OF 'laws.FnExactFuns'. -/
def fnExactFunsUptoCard : Claim7 := { stood := { row := fnExactFunsUptoRow, standIns := [], harness := (true, "494a57a3e8e7822a5217a26e966f0956e3ce31d3048881404e32a021a41c6d05"), looks := false }, kinds := [], alts := [], laidByText := true, laidKinds := [.data, .pinned], laidTests := true, laidLooks := .later }
def FnExactFunsUptoCardSaid : Prop := Claim7.holds Tryd.pinned (.plain (OpenSpec.upto fnExactFunsSpec)) fnExactFunsUptoCard
end Rows
end Go.Proofs.YthddchcckpmgoaaDoor
