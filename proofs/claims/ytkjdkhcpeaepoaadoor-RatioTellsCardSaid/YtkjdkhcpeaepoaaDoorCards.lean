/-
  DERIVED. GIVEN WITH THE SEED: THE CARDS: each row of YtkjdkhcpeaepoaaDoorRows.lean that lists a variable, with what it lists TIED to the program's text (the seventh form; the later family's looks); each row that meets fmt, with fmt's text TOLD by the authors' own Lean function (tested against real Go, not proved from fmt's source: count such statements apart). THE CARD IS WHAT COUNTS. Prove the row's statement (the work); the ties are given (YtkjdkhcpeaepoaaDoorTie.lean); close each card by the builder's one call (the guide's Derived/Test/ToyasCard.lean, 'card_holds'). Laid BY PROGRAM, IN A SANDBOX (cutbox-door.mjs). By AI agents, Wed Nov 11 2026. No macro, syntax, notation, axiom, sorry.
-/
import Derived.Test.YtkjdkhcpeaepoaaDoorRows
import GoSem.ClaimSeven
namespace Go.Proofs.YtkjdkhcpeaepoaaDoor
namespace Rows

/-- THE TIED CARD OF 'gavelkindlaw04.RatioTells'. -/
def ratioTellsCard : Claim7 := { stood := { row := ratioTellsRow, standIns := [], harness := (true, "24dc5cad8641ba1652fdf7103a33f50247004004fb686526e4d506fe679dbe19"), looks := false }, kinds := [], alts := [], laidByText := true, laidKinds := [.data, .data], laidTests := true, laidLooks := .later }
def RatioTellsCardSaid : Prop := Claim7.holds Tryd.pinned (.plain (OpenSpec.ofChange ratioTellsSpec)) ratioTellsCard

/-- THE TIED CARD OF 'gavelkindlaw04.RatioMakes'. -/
def ratioMakesCard : Claim7 := { stood := { row := ratioMakesRow, standIns := [], harness := (true, "24dc5cad8641ba1652fdf7103a33f50247004004fb686526e4d506fe679dbe19"), looks := false }, kinds := [], alts := [], laidByText := true, laidKinds := [.data, .data], laidTests := true, laidLooks := .later }
def RatioMakesCardSaid : Prop := Claim7.holds Tryd.pinned (.plain (OpenSpec.ofChange ratioMakesSpec)) ratioMakesCard

/-- THE TIED CARD OF 'gavelkindlaw04.RatioOrders'. -/
def ratioOrdersCard : Claim7 := { stood := { row := ratioOrdersRow, standIns := [], harness := (true, "24dc5cad8641ba1652fdf7103a33f50247004004fb686526e4d506fe679dbe19"), looks := false }, kinds := [], alts := [], laidByText := true, laidKinds := [.data, .data], laidTests := true, laidLooks := .later }
def RatioOrdersCardSaid : Prop := Claim7.holds Tryd.pinned (.plain (OpenSpec.ofChange ratioOrdersSpec)) ratioOrdersCard

/-- THE TIED CARD OF 'gavelkindlaw04.RatioBack'. -/
def ratioBackCard : Claim7 := { stood := { row := ratioBackRow, standIns := [], harness := (true, "24dc5cad8641ba1652fdf7103a33f50247004004fb686526e4d506fe679dbe19"), looks := false }, kinds := [], alts := [], laidByText := true, laidKinds := [.data, .data], laidTests := true, laidLooks := .later }
def RatioBackCardSaid : Prop := Claim7.holds Tryd.pinned (.plain (OpenSpec.ofChange ratioBackSpec)) ratioBackCard

/-- THE TIED CARD OF 'gavelkindlaw05.ShareTells'. -/
def shareTellsCard : Claim7 := { stood := { row := shareTellsRow, standIns := [], harness := (true, "24dc5cad8641ba1652fdf7103a33f50247004004fb686526e4d506fe679dbe19"), looks := false }, kinds := [], alts := [], laidByText := true, laidKinds := [.data, .data], laidTests := true, laidLooks := .later }
def ShareTellsCardSaid : Prop := Claim7.holds Tryd.pinned (.plain (OpenSpec.ofChange shareTellsSpec)) shareTellsCard

/-- THE TIED CARD OF 'gavelkindlaw05.ShareChains'. -/
def shareChainsCard : Claim7 := { stood := { row := shareChainsRow, standIns := [], harness := (true, "24dc5cad8641ba1652fdf7103a33f50247004004fb686526e4d506fe679dbe19"), looks := false }, kinds := [], alts := [], laidByText := true, laidKinds := [.data, .data], laidTests := true, laidLooks := .later }
def ShareChainsCardSaid : Prop := Claim7.holds Tryd.pinned (.plain (OpenSpec.ofChange shareChainsSpec)) shareChainsCard

/-- THE TIED CARD OF 'gavelkindlaw05.ShareParts'. -/
def sharePartsCard : Claim7 := { stood := { row := sharePartsRow, standIns := [], harness := (true, "24dc5cad8641ba1652fdf7103a33f50247004004fb686526e4d506fe679dbe19"), looks := false }, kinds := [], alts := [], laidByText := true, laidKinds := [.data, .data], laidTests := true, laidLooks := .later }
def SharePartsCardSaid : Prop := Claim7.holds Tryd.pinned (.plain (OpenSpec.ofChange sharePartsSpec)) sharePartsCard

/-- THE TIED CARD OF 'gavelkindlaw05.ShareRises'. -/
def shareRisesCard : Claim7 := { stood := { row := shareRisesRow, standIns := [], harness := (true, "24dc5cad8641ba1652fdf7103a33f50247004004fb686526e4d506fe679dbe19"), looks := false }, kinds := [], alts := [], laidByText := true, laidKinds := [.data, .data], laidTests := true, laidLooks := .later }
def ShareRisesCardSaid : Prop := Claim7.holds Tryd.pinned (.plain (OpenSpec.ofChange shareRisesSpec)) shareRisesCard

/-- THE SECOND FORM's CARD OF 'gavelkindlaw04.RatioTells'. -/
def ratioTellsUptoCard : Claim7 := { stood := { row := ratioTellsUptoRow, standIns := [], harness := (true, "24dc5cad8641ba1652fdf7103a33f50247004004fb686526e4d506fe679dbe19"), looks := false }, kinds := [], alts := [], laidByText := true, laidKinds := [.data, .data], laidTests := true, laidLooks := .later }
def RatioTellsUptoCardSaid : Prop := Claim7.holds Tryd.pinned (.plain (OpenSpec.upto ratioTellsSpec)) ratioTellsUptoCard

/-- THE SECOND FORM's CARD OF 'gavelkindlaw04.RatioMakes'. -/
def ratioMakesUptoCard : Claim7 := { stood := { row := ratioMakesUptoRow, standIns := [], harness := (true, "24dc5cad8641ba1652fdf7103a33f50247004004fb686526e4d506fe679dbe19"), looks := false }, kinds := [], alts := [], laidByText := true, laidKinds := [.data, .data], laidTests := true, laidLooks := .later }
def RatioMakesUptoCardSaid : Prop := Claim7.holds Tryd.pinned (.plain (OpenSpec.upto ratioMakesSpec)) ratioMakesUptoCard

/-- THE SECOND FORM's CARD OF 'gavelkindlaw04.RatioOrders'. -/
def ratioOrdersUptoCard : Claim7 := { stood := { row := ratioOrdersUptoRow, standIns := [], harness := (true, "24dc5cad8641ba1652fdf7103a33f50247004004fb686526e4d506fe679dbe19"), looks := false }, kinds := [], alts := [], laidByText := true, laidKinds := [.data, .data], laidTests := true, laidLooks := .later }
def RatioOrdersUptoCardSaid : Prop := Claim7.holds Tryd.pinned (.plain (OpenSpec.upto ratioOrdersSpec)) ratioOrdersUptoCard

/-- THE SECOND FORM's CARD OF 'gavelkindlaw04.RatioBack'. -/
def ratioBackUptoCard : Claim7 := { stood := { row := ratioBackUptoRow, standIns := [], harness := (true, "24dc5cad8641ba1652fdf7103a33f50247004004fb686526e4d506fe679dbe19"), looks := false }, kinds := [], alts := [], laidByText := true, laidKinds := [.data, .data], laidTests := true, laidLooks := .later }
def RatioBackUptoCardSaid : Prop := Claim7.holds Tryd.pinned (.plain (OpenSpec.upto ratioBackSpec)) ratioBackUptoCard

/-- THE SECOND FORM's CARD OF 'gavelkindlaw05.ShareTells'. -/
def shareTellsUptoCard : Claim7 := { stood := { row := shareTellsUptoRow, standIns := [], harness := (true, "24dc5cad8641ba1652fdf7103a33f50247004004fb686526e4d506fe679dbe19"), looks := false }, kinds := [], alts := [], laidByText := true, laidKinds := [.data, .data], laidTests := true, laidLooks := .later }
def ShareTellsUptoCardSaid : Prop := Claim7.holds Tryd.pinned (.plain (OpenSpec.upto shareTellsSpec)) shareTellsUptoCard

/-- THE SECOND FORM's CARD OF 'gavelkindlaw05.ShareChains'. -/
def shareChainsUptoCard : Claim7 := { stood := { row := shareChainsUptoRow, standIns := [], harness := (true, "24dc5cad8641ba1652fdf7103a33f50247004004fb686526e4d506fe679dbe19"), looks := false }, kinds := [], alts := [], laidByText := true, laidKinds := [.data, .data], laidTests := true, laidLooks := .later }
def ShareChainsUptoCardSaid : Prop := Claim7.holds Tryd.pinned (.plain (OpenSpec.upto shareChainsSpec)) shareChainsUptoCard

/-- THE SECOND FORM's CARD OF 'gavelkindlaw05.ShareParts'. -/
def sharePartsUptoCard : Claim7 := { stood := { row := sharePartsUptoRow, standIns := [], harness := (true, "24dc5cad8641ba1652fdf7103a33f50247004004fb686526e4d506fe679dbe19"), looks := false }, kinds := [], alts := [], laidByText := true, laidKinds := [.data, .data], laidTests := true, laidLooks := .later }
def SharePartsUptoCardSaid : Prop := Claim7.holds Tryd.pinned (.plain (OpenSpec.upto sharePartsSpec)) sharePartsUptoCard

/-- THE SECOND FORM's CARD OF 'gavelkindlaw05.ShareRises'. -/
def shareRisesUptoCard : Claim7 := { stood := { row := shareRisesUptoRow, standIns := [], harness := (true, "24dc5cad8641ba1652fdf7103a33f50247004004fb686526e4d506fe679dbe19"), looks := false }, kinds := [], alts := [], laidByText := true, laidKinds := [.data, .data], laidTests := true, laidLooks := .later }
def ShareRisesUptoCardSaid : Prop := Claim7.holds Tryd.pinned (.plain (OpenSpec.upto shareRisesSpec)) shareRisesUptoCard
end Rows
end Go.Proofs.YtkjdkhcpeaepoaaDoor
