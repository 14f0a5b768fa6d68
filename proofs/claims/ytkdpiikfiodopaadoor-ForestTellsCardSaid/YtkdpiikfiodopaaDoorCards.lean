/-
  DERIVED. GIVEN WITH THE SEED: THE CARDS: each row of YtkdpiikfiodopaaDoorRows.lean that lists a variable, with what it lists TIED to the program's text (the seventh form; the later family's looks); each row that meets fmt, with fmt's text TOLD by the authors' own Lean function (tested against real Go, not proved from fmt's source: count such statements apart). THE CARD IS WHAT COUNTS. Prove the row's statement (the work); the ties are given (YtkdpiikfiodopaaDoorTie.lean); close each card by the builder's one call (the guide's Derived/Test/ToyasCard.lean, 'card_holds'). Laid BY PROGRAM, IN A SANDBOX (cutbox-door.mjs). By AI agents, Wed Nov 11 2026. No macro, syntax, notation, axiom, sorry.
-/
import Derived.Test.YtkdpiikfiodopaaDoorRows
import GoSem.ClaimSeven
namespace Go.Proofs.YtkdpiikfiodopaaDoor
namespace Rows

/-- THE TIED CARD OF 'gavelkindlaw04.RatioMakes'. -/
def ratioMakesCard : Claim7 := { stood := { row := ratioMakesRow, standIns := [], harness := (true, "a1275ec53222ea3c2d28009894f41a52bcd52506a07abad6be307d560d72f2b7"), looks := false }, kinds := [], alts := [], laidByText := true, laidKinds := [.data, .data], laidTests := true, laidLooks := .later }
def RatioMakesCardSaid : Prop := Claim7.holds Tryd.pinned (.plain (OpenSpec.ofChange ratioMakesSpec)) ratioMakesCard

/-- THE TIED CARD OF 'gavelkindlaw05.ShareChains'. -/
def shareChainsCard : Claim7 := { stood := { row := shareChainsRow, standIns := [], harness := (true, "a1275ec53222ea3c2d28009894f41a52bcd52506a07abad6be307d560d72f2b7"), looks := false }, kinds := [], alts := [], laidByText := true, laidKinds := [.data, .data], laidTests := true, laidLooks := .later }
def ShareChainsCardSaid : Prop := Claim7.holds Tryd.pinned (.plain (OpenSpec.ofChange shareChainsSpec)) shareChainsCard

/-- THE TIED CARD OF 'gavelkindlaw19.ForestTells'. -/
def forestTellsCard : Claim7 := { stood := { row := forestTellsRow, standIns := [], harness := (true, "a1275ec53222ea3c2d28009894f41a52bcd52506a07abad6be307d560d72f2b7"), looks := false }, kinds := [], alts := [], laidByText := true, laidKinds := [.data, .data], laidTests := true, laidLooks := .later }
def ForestTellsCardSaid : Prop := Claim7.holds Tryd.pinned (.plain (OpenSpec.ofChange forestTellsSpec)) forestTellsCard

/-- THE TIED CARD OF 'gavelkindlaw19.ForestMeets'. -/
def forestMeetsCard : Claim7 := { stood := { row := forestMeetsRow, standIns := [], harness := (true, "a1275ec53222ea3c2d28009894f41a52bcd52506a07abad6be307d560d72f2b7"), looks := false }, kinds := [], alts := [], laidByText := true, laidKinds := [.data, .data], laidTests := true, laidLooks := .later }
def ForestMeetsCardSaid : Prop := Claim7.holds Tryd.pinned (.plain (OpenSpec.ofChange forestMeetsSpec)) forestMeetsCard

/-- THE TIED CARD OF 'gavelkindlaw19.ForestTree'. -/
def forestTreeCard : Claim7 := { stood := { row := forestTreeRow, standIns := [], harness := (true, "a1275ec53222ea3c2d28009894f41a52bcd52506a07abad6be307d560d72f2b7"), looks := false }, kinds := [], alts := [], laidByText := true, laidKinds := [.data, .data], laidTests := true, laidLooks := .later }
def ForestTreeCardSaid : Prop := Claim7.holds Tryd.pinned (.plain (OpenSpec.ofChange forestTreeSpec)) forestTreeCard

/-- THE TIED CARD OF 'gavelkindlaw19.ForestLowest'. -/
def forestLowestCard : Claim7 := { stood := { row := forestLowestRow, standIns := [], harness := (true, "a1275ec53222ea3c2d28009894f41a52bcd52506a07abad6be307d560d72f2b7"), looks := false }, kinds := [], alts := [], laidByText := true, laidKinds := [.data, .data], laidTests := true, laidLooks := .later }
def ForestLowestCardSaid : Prop := Claim7.holds Tryd.pinned (.plain (OpenSpec.ofChange forestLowestSpec)) forestLowestCard

/-- THE SECOND FORM's CARD OF 'gavelkindlaw04.RatioMakes'. -/
def ratioMakesUptoCard : Claim7 := { stood := { row := ratioMakesUptoRow, standIns := [], harness := (true, "a1275ec53222ea3c2d28009894f41a52bcd52506a07abad6be307d560d72f2b7"), looks := false }, kinds := [], alts := [], laidByText := true, laidKinds := [.data, .data], laidTests := true, laidLooks := .later }
def RatioMakesUptoCardSaid : Prop := Claim7.holds Tryd.pinned (.plain (OpenSpec.upto ratioMakesSpec)) ratioMakesUptoCard

/-- THE SECOND FORM's CARD OF 'gavelkindlaw05.ShareChains'. -/
def shareChainsUptoCard : Claim7 := { stood := { row := shareChainsUptoRow, standIns := [], harness := (true, "a1275ec53222ea3c2d28009894f41a52bcd52506a07abad6be307d560d72f2b7"), looks := false }, kinds := [], alts := [], laidByText := true, laidKinds := [.data, .data], laidTests := true, laidLooks := .later }
def ShareChainsUptoCardSaid : Prop := Claim7.holds Tryd.pinned (.plain (OpenSpec.upto shareChainsSpec)) shareChainsUptoCard

/-- THE SECOND FORM's CARD OF 'gavelkindlaw19.ForestTells'. -/
def forestTellsUptoCard : Claim7 := { stood := { row := forestTellsUptoRow, standIns := [], harness := (true, "a1275ec53222ea3c2d28009894f41a52bcd52506a07abad6be307d560d72f2b7"), looks := false }, kinds := [], alts := [], laidByText := true, laidKinds := [.data, .data], laidTests := true, laidLooks := .later }
def ForestTellsUptoCardSaid : Prop := Claim7.holds Tryd.pinned (.plain (OpenSpec.upto forestTellsSpec)) forestTellsUptoCard

/-- THE SECOND FORM's CARD OF 'gavelkindlaw19.ForestMeets'. -/
def forestMeetsUptoCard : Claim7 := { stood := { row := forestMeetsUptoRow, standIns := [], harness := (true, "a1275ec53222ea3c2d28009894f41a52bcd52506a07abad6be307d560d72f2b7"), looks := false }, kinds := [], alts := [], laidByText := true, laidKinds := [.data, .data], laidTests := true, laidLooks := .later }
def ForestMeetsUptoCardSaid : Prop := Claim7.holds Tryd.pinned (.plain (OpenSpec.upto forestMeetsSpec)) forestMeetsUptoCard

/-- THE SECOND FORM's CARD OF 'gavelkindlaw19.ForestTree'. -/
def forestTreeUptoCard : Claim7 := { stood := { row := forestTreeUptoRow, standIns := [], harness := (true, "a1275ec53222ea3c2d28009894f41a52bcd52506a07abad6be307d560d72f2b7"), looks := false }, kinds := [], alts := [], laidByText := true, laidKinds := [.data, .data], laidTests := true, laidLooks := .later }
def ForestTreeUptoCardSaid : Prop := Claim7.holds Tryd.pinned (.plain (OpenSpec.upto forestTreeSpec)) forestTreeUptoCard

/-- THE SECOND FORM's CARD OF 'gavelkindlaw19.ForestLowest'. -/
def forestLowestUptoCard : Claim7 := { stood := { row := forestLowestUptoRow, standIns := [], harness := (true, "a1275ec53222ea3c2d28009894f41a52bcd52506a07abad6be307d560d72f2b7"), looks := false }, kinds := [], alts := [], laidByText := true, laidKinds := [.data, .data], laidTests := true, laidLooks := .later }
def ForestLowestUptoCardSaid : Prop := Claim7.holds Tryd.pinned (.plain (OpenSpec.upto forestLowestSpec)) forestLowestUptoCard
end Rows
end Go.Proofs.YtkdpiikfiodopaaDoor
