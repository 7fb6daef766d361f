/-
  DERIVED. GIVEN WITH THE SEED: THE CARDS: each row of YtpmmjhpmheooeaaDoorRows.lean that lists a variable, with what it lists TIED to the program's text (the seventh form; the later family's looks); each row that meets fmt, with fmt's text TOLD by the authors' own Lean function (tested against real Go, not proved from fmt's source: count such statements apart). THE CARD IS WHAT COUNTS. Prove the row's statement (the work); the ties are given (YtpmmjhpmheooeaaDoorTie.lean); close each card by the builder's one call (the guide's Derived/Test/ToyasCard.lean, 'card_holds'). Laid BY PROGRAM, IN A SANDBOX (cutbox-door.mjs). By AI agents, Wed Nov 11 2026. No macro, syntax, notation, axiom, sorry.
-/
import Derived.Test.YtpmmjhpmheooeaaDoorRows
import GoSem.ClaimSeven
namespace Go.Proofs.YtpmmjhpmheooeaaDoor
namespace Rows

/-- THE TIED CARD OF 'laws.FnExactParseAct'. -/
def fnExactParseActCard : Claim7 := { stood := { row := fnExactParseActRow, standIns := [], harness := (true, "e052a9a80911a7c98e72b18267fa447445759f646e6cd231b6fb30e0babf7d15"), looks := false }, kinds := [], alts := [], laidByText := true, laidKinds := [.data, .data, .data], laidTests := true, laidLooks := .later }
def FnExactParseActCardSaid : Prop := Claim7.holds Tryd.pinned (.plain (OpenSpec.ofChange fnExactParseActSpec)) fnExactParseActCard

/-- THE TIED CARD OF 'laws.FnActTexts'. -/
def fnActTextsCard : Claim7 := { stood := { row := fnActTextsRow, standIns := [], harness := (true, "e052a9a80911a7c98e72b18267fa447445759f646e6cd231b6fb30e0babf7d15"), looks := false }, kinds := [], alts := [], laidByText := true, laidKinds := [.data, .data, .data], laidTests := true, laidLooks := .later }
def FnActTextsCardSaid : Prop := Claim7.holds Tryd.pinned (.plain (OpenSpec.ofChange fnActTextsSpec)) fnActTextsCard

/-- THE TIED CARD OF 'laws.FnDeeds'. -/
def fnDeedsCard : Claim7 := { stood := { row := fnDeedsRow, standIns := [], harness := (true, "e052a9a80911a7c98e72b18267fa447445759f646e6cd231b6fb30e0babf7d15"), looks := false }, kinds := [], alts := [], laidByText := true, laidKinds := [.data, .data, .data, .data, .pinned], laidTests := true, laidLooks := .later }
def FnDeedsCardSaid : Prop := Claim7.holds Tryd.pinned (.plain (OpenSpec.ofChange fnDeedsSpec)) fnDeedsCard

/-- THE TIED CARD OF 'laws.FnSummaries'. -/
def fnSummariesCard : Claim7 := { stood := { row := fnSummariesRow, standIns := [], harness := (true, "e052a9a80911a7c98e72b18267fa447445759f646e6cd231b6fb30e0babf7d15"), looks := false }, kinds := [], alts := [], laidByText := true, laidKinds := [.data, .data, .data, .data, .pinned], laidTests := true, laidLooks := .later }
def FnSummariesCardSaid : Prop := Claim7.holds Tryd.pinned (.plain (OpenSpec.ofChange fnSummariesSpec)) fnSummariesCard

/-- THE SECOND FORM's CARD OF 'laws.FnExactParseAct'. -/
def fnExactParseActUptoCard : Claim7 := { stood := { row := fnExactParseActUptoRow, standIns := [], harness := (true, "e052a9a80911a7c98e72b18267fa447445759f646e6cd231b6fb30e0babf7d15"), looks := false }, kinds := [], alts := [], laidByText := true, laidKinds := [.data, .data, .data], laidTests := true, laidLooks := .later }
def FnExactParseActUptoCardSaid : Prop := Claim7.holds Tryd.pinned (.plain (OpenSpec.upto fnExactParseActSpec)) fnExactParseActUptoCard

/-- THE SECOND FORM's CARD OF 'laws.FnActTexts'. -/
def fnActTextsUptoCard : Claim7 := { stood := { row := fnActTextsUptoRow, standIns := [], harness := (true, "e052a9a80911a7c98e72b18267fa447445759f646e6cd231b6fb30e0babf7d15"), looks := false }, kinds := [], alts := [], laidByText := true, laidKinds := [.data, .data, .data], laidTests := true, laidLooks := .later }
def FnActTextsUptoCardSaid : Prop := Claim7.holds Tryd.pinned (.plain (OpenSpec.upto fnActTextsSpec)) fnActTextsUptoCard

/-- THE SECOND FORM's CARD OF 'laws.FnDeeds'. -/
def fnDeedsUptoCard : Claim7 := { stood := { row := fnDeedsUptoRow, standIns := [], harness := (true, "e052a9a80911a7c98e72b18267fa447445759f646e6cd231b6fb30e0babf7d15"), looks := false }, kinds := [], alts := [], laidByText := true, laidKinds := [.data, .data, .data, .data, .pinned], laidTests := true, laidLooks := .later }
def FnDeedsUptoCardSaid : Prop := Claim7.holds Tryd.pinned (.plain (OpenSpec.upto fnDeedsSpec)) fnDeedsUptoCard

/-- THE SECOND FORM's CARD OF 'laws.FnSummaries'. -/
def fnSummariesUptoCard : Claim7 := { stood := { row := fnSummariesUptoRow, standIns := [], harness := (true, "e052a9a80911a7c98e72b18267fa447445759f646e6cd231b6fb30e0babf7d15"), looks := false }, kinds := [], alts := [], laidByText := true, laidKinds := [.data, .data, .data, .data, .pinned], laidTests := true, laidLooks := .later }
def FnSummariesUptoCardSaid : Prop := Claim7.holds Tryd.pinned (.plain (OpenSpec.upto fnSummariesSpec)) fnSummariesUptoCard
end Rows
end Go.Proofs.YtpmmjhpmheooeaaDoor
