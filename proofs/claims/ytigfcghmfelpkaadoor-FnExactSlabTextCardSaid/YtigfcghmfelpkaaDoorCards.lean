/-
  DERIVED. GIVEN WITH THE SEED: THE CARDS: each row of YtigfcghmfelpkaaDoorRows.lean that lists a variable, with what it lists TIED to the program's text (the seventh form; the later family's looks); each row that meets fmt, with fmt's text TOLD by the authors' own Lean function (tested against real Go, not proved from fmt's source: count such statements apart). THE CARD IS WHAT COUNTS. Prove the row's statement (the work); the ties are given (YtigfcghmfelpkaaDoorTie.lean); close each card by the builder's one call (the guide's Derived/Test/ToyasCard.lean, 'card_holds'). Laid BY PROGRAM, IN A SANDBOX (cutbox-door.mjs). By AI agents, Wed Nov 11 2026. No macro, syntax, notation, axiom, sorry.
-/
import Derived.Test.YtigfcghmfelpkaaDoorRows
import GoSem.ClaimSeven
namespace Go.Proofs.YtigfcghmfelpkaaDoor
namespace Rows

/-- THE TIED CARD OF 'laws.FnExactSlabText'. -/
def fnExactSlabTextCard : Claim7 := { stood := { row := fnExactSlabTextRow, standIns := [], harness := (true, "e9fe1b6c9282883e53df603ba735d3d16da898db19a0abe219a963b4fdc34ffb"), looks := false }, kinds := [], alts := [], laidByText := true, laidKinds := [.data, .data, .data], laidTests := true, laidLooks := .later }
def FnExactSlabTextCardSaid : Prop := Claim7.holds Tryd.pinned (.plain (OpenSpec.ofChange fnExactSlabTextSpec)) fnExactSlabTextCard

/-- THE SECOND FORM's CARD OF 'laws.FnExactSlabText'. -/
def fnExactSlabTextUptoCard : Claim7 := { stood := { row := fnExactSlabTextUptoRow, standIns := [], harness := (true, "e9fe1b6c9282883e53df603ba735d3d16da898db19a0abe219a963b4fdc34ffb"), looks := false }, kinds := [], alts := [], laidByText := true, laidKinds := [.data, .data, .data], laidTests := true, laidLooks := .later }
def FnExactSlabTextUptoCardSaid : Prop := Claim7.holds Tryd.pinned (.plain (OpenSpec.upto fnExactSlabTextSpec)) fnExactSlabTextUptoCard
end Rows
end Go.Proofs.YtigfcghmfelpkaaDoor
