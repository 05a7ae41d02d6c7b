/-
  DERIVED. GIVEN WITH THE SEED: THE CARDS: each row of YtjoaldaldcpfeaaGreatDoorRows.lean that lists a variable, with what it lists TIED to the program's text (the seventh form; the later family's looks); each row that meets fmt, with fmt's text TOLD by the authors' own Lean function (tested against real Go, not proved from fmt's source: count such statements apart). THE CARD IS WHAT COUNTS. Prove the row's statement (the work); the ties are given (YtjoaldaldcpfeaaGreatDoorTie.lean); close each card by the builder's one call (the guide's Derived/Test/ToyasCard.lean, 'card_holds'). Laid BY PROGRAM, IN A SANDBOX (cutbox-door.mjs). By AI agents, Wed Nov 11 2026. No macro, syntax, notation, axiom, sorry.
-/
import Derived.Test.YtjoaldaldcpfeaaGreatDoorRows
import GoSem.ClaimSeven
namespace Go.Proofs.YtjoaldaldcpfeaaGreatDoor
namespace Rows

/-- THE TIED CARD OF 'stratalaw19.ClusterChecks'. -/
def clusterChecksCard : Claim7 := { stood := { row := clusterChecksRow, standIns := [], harness := (true, "27860c12399fcfa91b3a13e83c7f1c90cc1c419fee59d0f3903b03035b19bd9a"), looks := false }, kinds := [], alts := [], laidByText := true, laidKinds := [.data, .data, .data, .data], laidTests := true, laidLooks := .later }
def ClusterChecksCardSaid : Prop := Claim7.holds Tryz.pinned (.plain (OpenSpec.ofChange clusterChecksSpec)) clusterChecksCard

/-- THE TIED CARD OF 'stratalaw19.ClusterRoutes'. -/
def clusterRoutesCard : Claim7 := { stood := { row := clusterRoutesRow, standIns := [], harness := (true, "27860c12399fcfa91b3a13e83c7f1c90cc1c419fee59d0f3903b03035b19bd9a"), looks := false }, kinds := [], alts := [], laidByText := true, laidKinds := [.data, .data, .data, .data], laidTests := true, laidLooks := .later }
def ClusterRoutesCardSaid : Prop := Claim7.holds Tryz.pinned (.plain (OpenSpec.ofChange clusterRoutesSpec)) clusterRoutesCard

/-- THE SECOND FORM's CARD OF 'stratalaw19.ClusterChecks'. -/
def clusterChecksUptoCard : Claim7 := { stood := { row := clusterChecksUptoRow, standIns := [], harness := (true, "27860c12399fcfa91b3a13e83c7f1c90cc1c419fee59d0f3903b03035b19bd9a"), looks := false }, kinds := [], alts := [], laidByText := true, laidKinds := [.data, .data, .data, .data], laidTests := true, laidLooks := .later }
def ClusterChecksUptoCardSaid : Prop := Claim7.holds Tryz.pinned (.plain (OpenSpec.upto clusterChecksSpec)) clusterChecksUptoCard

/-- THE SECOND FORM's CARD OF 'stratalaw19.ClusterRoutes'. -/
def clusterRoutesUptoCard : Claim7 := { stood := { row := clusterRoutesUptoRow, standIns := [], harness := (true, "27860c12399fcfa91b3a13e83c7f1c90cc1c419fee59d0f3903b03035b19bd9a"), looks := false }, kinds := [], alts := [], laidByText := true, laidKinds := [.data, .data, .data, .data], laidTests := true, laidLooks := .later }
def ClusterRoutesUptoCardSaid : Prop := Claim7.holds Tryz.pinned (.plain (OpenSpec.upto clusterRoutesSpec)) clusterRoutesUptoCard
end Rows
end Go.Proofs.YtjoaldaldcpfeaaGreatDoor
