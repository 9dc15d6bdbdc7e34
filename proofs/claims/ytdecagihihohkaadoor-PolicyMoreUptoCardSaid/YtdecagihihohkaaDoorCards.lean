/-
  DERIVED. GIVEN WITH THE SEED: THE CARDS: each row of YtdecagihihohkaaDoorRows.lean that lists a variable, with what it lists TIED to the program's text (the seventh form; the later family's looks); each row that meets fmt, with fmt's text TOLD by the authors' own Lean function (tested against real Go, not proved from fmt's source: count such statements apart). THE CARD IS WHAT COUNTS. Prove the row's statement (the work); the ties are given (YtdecagihihohkaaDoorTie.lean); close each card by the builder's one call (the guide's Derived/Test/ToyasCard.lean, 'card_holds'). Laid BY PROGRAM, IN A SANDBOX (cutbox-door.mjs). By AI agents, Wed Nov 11 2026. No macro, syntax, notation, axiom, sorry.
-/
import Derived.Test.YtdecagihihohkaaDoorRows
import GoSem.ClaimSeven
namespace Go.Proofs.YtdecagihihohkaaDoor
namespace Rows

/-- THE TIED CARD OF 'messuagelaw20.PolicyLinks'. -/
def policyLinksCard : Claim7 := { stood := { row := policyLinksRow, standIns := [], harness := (true, "460cf5c3bbfe3e0fe77840526edf7b48fd4e49262a7f0c0cd512bb214c532038"), looks := false }, kinds := [], alts := [], laidByText := true, laidKinds := [.data, .pinned], laidTests := true, laidLooks := .later }
def PolicyLinksCardSaid : Prop := Claim7.holds Tryd.pinned (.plain (OpenSpec.ofChange policyLinksSpec)) policyLinksCard

/-- THE TIED CARD OF 'messuagelaw20.PolicyMore'. -/
def policyMoreCard : Claim7 := { stood := { row := policyMoreRow, standIns := [], harness := (true, "460cf5c3bbfe3e0fe77840526edf7b48fd4e49262a7f0c0cd512bb214c532038"), looks := false }, kinds := [], alts := [], laidByText := true, laidKinds := [.data, .pinned], laidTests := true, laidLooks := .later }
def PolicyMoreCardSaid : Prop := Claim7.holds Tryd.pinned (.plain (OpenSpec.ofChange policyMoreSpec)) policyMoreCard

/-- THE SECOND FORM's CARD OF 'messuagelaw20.PolicyLinks'. -/
def policyLinksUptoCard : Claim7 := { stood := { row := policyLinksUptoRow, standIns := [], harness := (true, "460cf5c3bbfe3e0fe77840526edf7b48fd4e49262a7f0c0cd512bb214c532038"), looks := false }, kinds := [], alts := [], laidByText := true, laidKinds := [.data, .pinned], laidTests := true, laidLooks := .later }
def PolicyLinksUptoCardSaid : Prop := Claim7.holds Tryd.pinned (.plain (OpenSpec.upto policyLinksSpec)) policyLinksUptoCard

/-- THE SECOND FORM's CARD OF 'messuagelaw20.PolicyMore'. -/
def policyMoreUptoCard : Claim7 := { stood := { row := policyMoreUptoRow, standIns := [], harness := (true, "460cf5c3bbfe3e0fe77840526edf7b48fd4e49262a7f0c0cd512bb214c532038"), looks := false }, kinds := [], alts := [], laidByText := true, laidKinds := [.data, .pinned], laidTests := true, laidLooks := .later }
def PolicyMoreUptoCardSaid : Prop := Claim7.holds Tryd.pinned (.plain (OpenSpec.upto policyMoreSpec)) policyMoreUptoCard
end Rows
end Go.Proofs.YtdecagihihohkaaDoor
