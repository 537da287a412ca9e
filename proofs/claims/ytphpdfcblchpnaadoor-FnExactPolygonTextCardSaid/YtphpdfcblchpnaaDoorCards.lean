/-
  DERIVED. GIVEN WITH THE SEED: THE CARDS: each row of YtphpdfcblchpnaaDoorRows.lean that lists a variable, with what it lists TIED to the program's text (the seventh form; the later family's looks); each row that meets fmt, with fmt's text TOLD by the authors' own Lean function (tested against real Go, not proved from fmt's source: count such statements apart). THE CARD IS WHAT COUNTS. Prove the row's statement (the work); the ties are given (YtphpdfcblchpnaaDoorTie.lean); close each card by the builder's one call (the guide's Derived/Test/ToyasCard.lean, 'card_holds'). Laid BY PROGRAM, IN A SANDBOX (cutbox-door.mjs). By AI agents, Wed Nov 11 2026. No macro, syntax, notation, axiom, sorry.
-/
import Derived.Test.YtphpdfcblchpnaaDoorRows
import GoSem.ClaimSeven
namespace Go.Proofs.YtphpdfcblchpnaaDoor
namespace Rows

/-- THE TIED CARD OF 'laws.FnExactPolygonText'. -/
def fnExactPolygonTextCard : Claim7 := { stood := { row := fnExactPolygonTextRow, standIns := [], harness := (true, "eca4c4203a499668d73d3660f05a323342ac69d78963a0e1df2b3a46c9ef43fd"), looks := false }, kinds := [], alts := [], laidByText := true, laidKinds := [.data, .data, .data], laidTests := true, laidLooks := .later }
def FnExactPolygonTextCardSaid : Prop := Claim7.holds Tryd.pinned (.plain (OpenSpec.ofChange fnExactPolygonTextSpec)) fnExactPolygonTextCard

/-- THE SECOND FORM's CARD OF 'laws.FnExactPolygonText'. -/
def fnExactPolygonTextUptoCard : Claim7 := { stood := { row := fnExactPolygonTextUptoRow, standIns := [], harness := (true, "eca4c4203a499668d73d3660f05a323342ac69d78963a0e1df2b3a46c9ef43fd"), looks := false }, kinds := [], alts := [], laidByText := true, laidKinds := [.data, .data, .data], laidTests := true, laidLooks := .later }
def FnExactPolygonTextUptoCardSaid : Prop := Claim7.holds Tryd.pinned (.plain (OpenSpec.upto fnExactPolygonTextSpec)) fnExactPolygonTextUptoCard
end Rows
end Go.Proofs.YtphpdfcblchpnaaDoor
