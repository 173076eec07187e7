/-
  DERIVED. GIVEN WITH THE SEED: THE CARDS: each row of YtcngfaggignmpaaGreatDoorRows.lean that lists a variable, with what it lists TIED to the program's text (the seventh form; the later family's looks); each row that meets fmt, with fmt's text TOLD by the authors' own Lean function (tested against real Go, not proved from fmt's source: count such statements apart). THE CARD IS WHAT COUNTS. Prove the row's statement (the work); the ties are given (YtcngfaggignmpaaGreatDoorTie.lean); close each card by the builder's one call (the guide's Derived/Test/ToyasCard.lean, 'card_holds'). Laid BY PROGRAM, IN A SANDBOX (cutbox-door.mjs). By AI agents, Wed Nov 11 2026. No macro, syntax, notation, axiom, sorry.
-/
import Derived.Test.YtcngfaggignmpaaGreatDoorRows
import GoSem.ClaimSeven
namespace Go.Proofs.YtcngfaggignmpaaGreatDoor
namespace Rows

/-- THE TIED CARD OF 'timekeepertop.TopRow'. -/
def topRowCard : Claim7 := { stood := { row := topRowRow, standIns := [], harness := (true, "c8233a8ebc46bfd009709c4f37ca0688e3fb40809988520d821800a3fdf5cab5"), looks := true }, kinds := [], alts := [], laidByText := true, laidKinds := [.data, .data, .data, .sentinel, .sentinel], laidTests := true, laidLooks := .later }
def TopRowCardSaid : Prop := Claim7.holds Tryz.pinned (.plain (OpenSpec.ofChange topRowSpec)) topRowCard

/-- THE TIED CARD OF 'timekeepertop.TopSleep'. -/
def topSleepCard : Claim7 := { stood := { row := topSleepRow, standIns := [], harness := (true, "c8233a8ebc46bfd009709c4f37ca0688e3fb40809988520d821800a3fdf5cab5"), looks := true }, kinds := [], alts := [], laidByText := true, laidKinds := [.data, .data, .data, .sentinel, .sentinel], laidTests := true, laidLooks := .later }
def TopSleepCardSaid : Prop := Claim7.holds Tryz.pinned (.plain (OpenSpec.ofChange topSleepSpec)) topSleepCard

/-- THE SECOND FORM's CARD OF 'timekeepertop.TopRow'. -/
def topRowUptoCard : Claim7 := { stood := { row := topRowUptoRow, standIns := [], harness := (true, "c8233a8ebc46bfd009709c4f37ca0688e3fb40809988520d821800a3fdf5cab5"), looks := true }, kinds := [], alts := [], laidByText := true, laidKinds := [.data, .data, .data, .sentinel, .sentinel], laidTests := true, laidLooks := .later }
def TopRowUptoCardSaid : Prop := Claim7.holds Tryz.pinned (.plain (OpenSpec.upto topRowSpec)) topRowUptoCard

/-- THE SECOND FORM's CARD OF 'timekeepertop.TopSleep'. -/
def topSleepUptoCard : Claim7 := { stood := { row := topSleepUptoRow, standIns := [], harness := (true, "c8233a8ebc46bfd009709c4f37ca0688e3fb40809988520d821800a3fdf5cab5"), looks := true }, kinds := [], alts := [], laidByText := true, laidKinds := [.data, .data, .data, .sentinel, .sentinel], laidTests := true, laidLooks := .later }
def TopSleepUptoCardSaid : Prop := Claim7.holds Tryz.pinned (.plain (OpenSpec.upto topSleepSpec)) topSleepUptoCard
end Rows
end Go.Proofs.YtcngfaggignmpaaGreatDoor
