/-
  DERIVED. GIVEN WITH THE SEED: THE CARDS: each row of YtalkheljejkpiaaDoorRows.lean that lists a variable, with what it lists TIED to the program's text (the seventh form; the later family's looks); each row that meets fmt, with fmt's text TOLD by the authors' own Lean function (tested against real Go, not proved from fmt's source: count such statements apart). THE CARD IS WHAT COUNTS. Prove the row's statement (the work); the ties are given (YtalkheljejkpiaaDoorTie.lean); close each card by the builder's one call (the guide's Derived/Test/ToyasCard.lean, 'card_holds'). Laid BY PROGRAM, IN A SANDBOX (cutbox-door.mjs). By AI agents, Wed Nov 11 2026. No macro, syntax, notation, axiom, sorry.
-/
import Derived.Test.YtalkheljejkpiaaDoorRows
import GoSem.ClaimSeven
namespace Go.Proofs.YtalkheljejkpiaaDoor
namespace Rows

/-- THE TIED CARD OF 'cartularykeep.PackBack'. -/
def packBackCard : Claim7 := { stood := { row := packBackRow, standIns := [], harness := (true, "90d821c50217c8717536daf09a8994f50937ca69246baedea8624d22cdf652bb"), looks := false }, kinds := [], alts := [], laidByText := true, laidKinds := [.data], laidTests := true, laidLooks := .later }
def PackBackCardSaid : Prop := Claim7.holds Tryd.pinned (.plain (OpenSpec.ofChange packBackSpec)) packBackCard

/-- THE TIED CARD OF 'cartularykeep.PackTurned'. -/
def packTurnedCard : Claim7 := { stood := { row := packTurnedRow, standIns := [], harness := (true, "90d821c50217c8717536daf09a8994f50937ca69246baedea8624d22cdf652bb"), looks := false }, kinds := [], alts := [], laidByText := true, laidKinds := [.data], laidTests := true, laidLooks := .later }
def PackTurnedCardSaid : Prop := Claim7.holds Tryd.pinned (.plain (OpenSpec.ofChange packTurnedSpec)) packTurnedCard

/-- THE TIED CARD OF 'cartularykeep.PackThin'. -/
def packThinCard : Claim7 := { stood := { row := packThinRow, standIns := [], harness := (true, "90d821c50217c8717536daf09a8994f50937ca69246baedea8624d22cdf652bb"), looks := false }, kinds := [], alts := [], laidByText := true, laidKinds := [.data], laidTests := true, laidLooks := .later }
def PackThinCardSaid : Prop := Claim7.holds Tryd.pinned (.plain (OpenSpec.ofChange packThinSpec)) packThinCard

/-- THE TIED CARD OF 'cartularykeep.StoreBack'. -/
def storeBackCard : Claim7 := { stood := { row := storeBackRow, standIns := [], harness := (true, "90d821c50217c8717536daf09a8994f50937ca69246baedea8624d22cdf652bb"), looks := false }, kinds := [], alts := [], laidByText := true, laidKinds := [.data], laidTests := true, laidLooks := .later }
def StoreBackCardSaid : Prop := Claim7.holds Tryd.pinned (.plain (OpenSpec.ofChange storeBackSpec)) storeBackCard

/-- THE TIED CARD OF 'cartularykeep.StoreOnward'. -/
def storeOnwardCard : Claim7 := { stood := { row := storeOnwardRow, standIns := [], harness := (true, "90d821c50217c8717536daf09a8994f50937ca69246baedea8624d22cdf652bb"), looks := false }, kinds := [], alts := [], laidByText := true, laidKinds := [.data], laidTests := true, laidLooks := .later }
def StoreOnwardCardSaid : Prop := Claim7.holds Tryd.pinned (.plain (OpenSpec.ofChange storeOnwardSpec)) storeOnwardCard

/-- THE TIED CARD OF 'cartularykeep.StoreClosed'. -/
def storeClosedCard : Claim7 := { stood := { row := storeClosedRow, standIns := [], harness := (true, "90d821c50217c8717536daf09a8994f50937ca69246baedea8624d22cdf652bb"), looks := false }, kinds := [], alts := [], laidByText := true, laidKinds := [.data], laidTests := true, laidLooks := .later }
def StoreClosedCardSaid : Prop := Claim7.holds Tryd.pinned (.plain (OpenSpec.ofChange storeClosedSpec)) storeClosedCard

/-- THE TIED CARD OF 'cartularykeep.StoreSwept'. -/
def storeSweptCard : Claim7 := { stood := { row := storeSweptRow, standIns := [], harness := (true, "90d821c50217c8717536daf09a8994f50937ca69246baedea8624d22cdf652bb"), looks := false }, kinds := [], alts := [], laidByText := true, laidKinds := [.data], laidTests := true, laidLooks := .later }
def StoreSweptCardSaid : Prop := Claim7.holds Tryd.pinned (.plain (OpenSpec.ofChange storeSweptSpec)) storeSweptCard

/-- THE SECOND FORM's CARD OF 'cartularykeep.PackBack'. -/
def packBackUptoCard : Claim7 := { stood := { row := packBackUptoRow, standIns := [], harness := (true, "90d821c50217c8717536daf09a8994f50937ca69246baedea8624d22cdf652bb"), looks := false }, kinds := [], alts := [], laidByText := true, laidKinds := [.data], laidTests := true, laidLooks := .later }
def PackBackUptoCardSaid : Prop := Claim7.holds Tryd.pinned (.plain (OpenSpec.upto packBackSpec)) packBackUptoCard

/-- THE SECOND FORM's CARD OF 'cartularykeep.PackTurned'. -/
def packTurnedUptoCard : Claim7 := { stood := { row := packTurnedUptoRow, standIns := [], harness := (true, "90d821c50217c8717536daf09a8994f50937ca69246baedea8624d22cdf652bb"), looks := false }, kinds := [], alts := [], laidByText := true, laidKinds := [.data], laidTests := true, laidLooks := .later }
def PackTurnedUptoCardSaid : Prop := Claim7.holds Tryd.pinned (.plain (OpenSpec.upto packTurnedSpec)) packTurnedUptoCard

/-- THE SECOND FORM's CARD OF 'cartularykeep.PackThin'. -/
def packThinUptoCard : Claim7 := { stood := { row := packThinUptoRow, standIns := [], harness := (true, "90d821c50217c8717536daf09a8994f50937ca69246baedea8624d22cdf652bb"), looks := false }, kinds := [], alts := [], laidByText := true, laidKinds := [.data], laidTests := true, laidLooks := .later }
def PackThinUptoCardSaid : Prop := Claim7.holds Tryd.pinned (.plain (OpenSpec.upto packThinSpec)) packThinUptoCard

/-- THE SECOND FORM's CARD OF 'cartularykeep.StoreBack'. -/
def storeBackUptoCard : Claim7 := { stood := { row := storeBackUptoRow, standIns := [], harness := (true, "90d821c50217c8717536daf09a8994f50937ca69246baedea8624d22cdf652bb"), looks := false }, kinds := [], alts := [], laidByText := true, laidKinds := [.data], laidTests := true, laidLooks := .later }
def StoreBackUptoCardSaid : Prop := Claim7.holds Tryd.pinned (.plain (OpenSpec.upto storeBackSpec)) storeBackUptoCard

/-- THE SECOND FORM's CARD OF 'cartularykeep.StoreOnward'. -/
def storeOnwardUptoCard : Claim7 := { stood := { row := storeOnwardUptoRow, standIns := [], harness := (true, "90d821c50217c8717536daf09a8994f50937ca69246baedea8624d22cdf652bb"), looks := false }, kinds := [], alts := [], laidByText := true, laidKinds := [.data], laidTests := true, laidLooks := .later }
def StoreOnwardUptoCardSaid : Prop := Claim7.holds Tryd.pinned (.plain (OpenSpec.upto storeOnwardSpec)) storeOnwardUptoCard

/-- THE SECOND FORM's CARD OF 'cartularykeep.StoreClosed'. -/
def storeClosedUptoCard : Claim7 := { stood := { row := storeClosedUptoRow, standIns := [], harness := (true, "90d821c50217c8717536daf09a8994f50937ca69246baedea8624d22cdf652bb"), looks := false }, kinds := [], alts := [], laidByText := true, laidKinds := [.data], laidTests := true, laidLooks := .later }
def StoreClosedUptoCardSaid : Prop := Claim7.holds Tryd.pinned (.plain (OpenSpec.upto storeClosedSpec)) storeClosedUptoCard

/-- THE SECOND FORM's CARD OF 'cartularykeep.StoreSwept'. -/
def storeSweptUptoCard : Claim7 := { stood := { row := storeSweptUptoRow, standIns := [], harness := (true, "90d821c50217c8717536daf09a8994f50937ca69246baedea8624d22cdf652bb"), looks := false }, kinds := [], alts := [], laidByText := true, laidKinds := [.data], laidTests := true, laidLooks := .later }
def StoreSweptUptoCardSaid : Prop := Claim7.holds Tryd.pinned (.plain (OpenSpec.upto storeSweptSpec)) storeSweptUptoCard
end Rows
end Go.Proofs.YtalkheljejkpiaaDoor
