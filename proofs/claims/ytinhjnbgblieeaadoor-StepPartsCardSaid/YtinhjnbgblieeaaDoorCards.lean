/-
  DERIVED. GIVEN WITH THE SEED: THE CARDS: each row of YtinhjnbgblieeaaDoorRows.lean that lists a variable, with what it lists TIED to the program's text (the seventh form; the later family's looks); each row that meets fmt, with fmt's text TOLD by the authors' own Lean function (tested against real Go, not proved from fmt's source: count such statements apart). THE CARD IS WHAT COUNTS. Prove the row's statement (the work); the ties are given (YtinhjnbgblieeaaDoorTie.lean); close each card by the builder's one call (the guide's Derived/Test/ToyasCard.lean, 'card_holds'). Laid BY PROGRAM, IN A SANDBOX (cutbox-door.mjs). By AI agents, Wed Nov 11 2026. No macro, syntax, notation, axiom, sorry.
-/
import Derived.Test.YtinhjnbgblieeaaDoorRows
import GoSem.ClaimSeven
namespace Go.Proofs.YtinhjnbgblieeaaDoor
namespace Rows

/-- THE TIED CARD OF 'cartularykeep.StepOrder'. -/
def stepOrderCard : Claim7 := { stood := { row := stepOrderRow, standIns := [], harness := (true, "d878af0dbc85c936a6d327b225ff6c21caf8368a1b1fe6c378e70e2bd0811e3a"), looks := false }, kinds := [], alts := [], laidByText := true, laidKinds := [.data, .data, .pinned], laidTests := true, laidLooks := .later }
def StepOrderCardSaid : Prop := Claim7.holds Tryd.pinned (.plain (OpenSpec.ofChange stepOrderSpec)) stepOrderCard

/-- THE TIED CARD OF 'cartularykeep.StepSealed'. -/
def stepSealedCard : Claim7 := { stood := { row := stepSealedRow, standIns := [], harness := (true, "d878af0dbc85c936a6d327b225ff6c21caf8368a1b1fe6c378e70e2bd0811e3a"), looks := false }, kinds := [], alts := [], laidByText := true, laidKinds := [.data, .data, .pinned], laidTests := true, laidLooks := .later }
def StepSealedCardSaid : Prop := Claim7.holds Tryd.pinned (.plain (OpenSpec.ofChange stepSealedSpec)) stepSealedCard

/-- THE TIED CARD OF 'cartularykeep.HeadQuorum'. -/
def headQuorumCard : Claim7 := { stood := { row := headQuorumRow, standIns := [], harness := (true, "d878af0dbc85c936a6d327b225ff6c21caf8368a1b1fe6c378e70e2bd0811e3a"), looks := false }, kinds := [], alts := [], laidByText := true, laidKinds := [.data, .data, .pinned], laidTests := true, laidLooks := .later }
def HeadQuorumCardSaid : Prop := Claim7.holds Tryd.pinned (.plain (OpenSpec.ofChange headQuorumSpec)) headQuorumCard

/-- THE TIED CARD OF 'cartularykeep.HeadGrows'. -/
def headGrowsCard : Claim7 := { stood := { row := headGrowsRow, standIns := [], harness := (true, "d878af0dbc85c936a6d327b225ff6c21caf8368a1b1fe6c378e70e2bd0811e3a"), looks := false }, kinds := [], alts := [], laidByText := true, laidKinds := [.data, .data, .pinned], laidTests := true, laidLooks := .later }
def HeadGrowsCardSaid : Prop := Claim7.holds Tryd.pinned (.plain (OpenSpec.ofChange headGrowsSpec)) headGrowsCard

/-- THE TIED CARD OF 'cartularykeep.HeadBack'. -/
def headBackCard : Claim7 := { stood := { row := headBackRow, standIns := [], harness := (true, "d878af0dbc85c936a6d327b225ff6c21caf8368a1b1fe6c378e70e2bd0811e3a"), looks := false }, kinds := [], alts := [], laidByText := true, laidKinds := [.data, .data, .pinned], laidTests := true, laidLooks := .later }
def HeadBackCardSaid : Prop := Claim7.holds Tryd.pinned (.plain (OpenSpec.ofChange headBackSpec)) headBackCard

/-- THE TIED CARD OF 'cartularykeep.StepBack'. -/
def stepBackCard : Claim7 := { stood := { row := stepBackRow, standIns := [], harness := (true, "d878af0dbc85c936a6d327b225ff6c21caf8368a1b1fe6c378e70e2bd0811e3a"), looks := false }, kinds := [], alts := [], laidByText := true, laidKinds := [.data, .data, .pinned], laidTests := true, laidLooks := .later }
def StepBackCardSaid : Prop := Claim7.holds Tryd.pinned (.plain (OpenSpec.ofChange stepBackSpec)) stepBackCard

/-- THE TIED CARD OF 'cartularykeep.StepOnly'. -/
def stepOnlyCard : Claim7 := { stood := { row := stepOnlyRow, standIns := [], harness := (true, "d878af0dbc85c936a6d327b225ff6c21caf8368a1b1fe6c378e70e2bd0811e3a"), looks := false }, kinds := [], alts := [], laidByText := true, laidKinds := [.data, .data, .pinned], laidTests := true, laidLooks := .later }
def StepOnlyCardSaid : Prop := Claim7.holds Tryd.pinned (.plain (OpenSpec.ofChange stepOnlySpec)) stepOnlyCard

/-- THE TIED CARD OF 'cartularykeep.StepParts'. -/
def stepPartsCard : Claim7 := { stood := { row := stepPartsRow, standIns := [], harness := (true, "d878af0dbc85c936a6d327b225ff6c21caf8368a1b1fe6c378e70e2bd0811e3a"), looks := false }, kinds := [], alts := [], laidByText := true, laidKinds := [.data, .data, .pinned], laidTests := true, laidLooks := .later }
def StepPartsCardSaid : Prop := Claim7.holds Tryd.pinned (.plain (OpenSpec.ofChange stepPartsSpec)) stepPartsCard

/-- THE SECOND FORM's CARD OF 'cartularykeep.StepOrder'. -/
def stepOrderUptoCard : Claim7 := { stood := { row := stepOrderUptoRow, standIns := [], harness := (true, "d878af0dbc85c936a6d327b225ff6c21caf8368a1b1fe6c378e70e2bd0811e3a"), looks := false }, kinds := [], alts := [], laidByText := true, laidKinds := [.data, .data, .pinned], laidTests := true, laidLooks := .later }
def StepOrderUptoCardSaid : Prop := Claim7.holds Tryd.pinned (.plain (OpenSpec.upto stepOrderSpec)) stepOrderUptoCard

/-- THE SECOND FORM's CARD OF 'cartularykeep.StepSealed'. -/
def stepSealedUptoCard : Claim7 := { stood := { row := stepSealedUptoRow, standIns := [], harness := (true, "d878af0dbc85c936a6d327b225ff6c21caf8368a1b1fe6c378e70e2bd0811e3a"), looks := false }, kinds := [], alts := [], laidByText := true, laidKinds := [.data, .data, .pinned], laidTests := true, laidLooks := .later }
def StepSealedUptoCardSaid : Prop := Claim7.holds Tryd.pinned (.plain (OpenSpec.upto stepSealedSpec)) stepSealedUptoCard

/-- THE SECOND FORM's CARD OF 'cartularykeep.HeadQuorum'. -/
def headQuorumUptoCard : Claim7 := { stood := { row := headQuorumUptoRow, standIns := [], harness := (true, "d878af0dbc85c936a6d327b225ff6c21caf8368a1b1fe6c378e70e2bd0811e3a"), looks := false }, kinds := [], alts := [], laidByText := true, laidKinds := [.data, .data, .pinned], laidTests := true, laidLooks := .later }
def HeadQuorumUptoCardSaid : Prop := Claim7.holds Tryd.pinned (.plain (OpenSpec.upto headQuorumSpec)) headQuorumUptoCard

/-- THE SECOND FORM's CARD OF 'cartularykeep.HeadGrows'. -/
def headGrowsUptoCard : Claim7 := { stood := { row := headGrowsUptoRow, standIns := [], harness := (true, "d878af0dbc85c936a6d327b225ff6c21caf8368a1b1fe6c378e70e2bd0811e3a"), looks := false }, kinds := [], alts := [], laidByText := true, laidKinds := [.data, .data, .pinned], laidTests := true, laidLooks := .later }
def HeadGrowsUptoCardSaid : Prop := Claim7.holds Tryd.pinned (.plain (OpenSpec.upto headGrowsSpec)) headGrowsUptoCard

/-- THE SECOND FORM's CARD OF 'cartularykeep.HeadBack'. -/
def headBackUptoCard : Claim7 := { stood := { row := headBackUptoRow, standIns := [], harness := (true, "d878af0dbc85c936a6d327b225ff6c21caf8368a1b1fe6c378e70e2bd0811e3a"), looks := false }, kinds := [], alts := [], laidByText := true, laidKinds := [.data, .data, .pinned], laidTests := true, laidLooks := .later }
def HeadBackUptoCardSaid : Prop := Claim7.holds Tryd.pinned (.plain (OpenSpec.upto headBackSpec)) headBackUptoCard

/-- THE SECOND FORM's CARD OF 'cartularykeep.StepBack'. -/
def stepBackUptoCard : Claim7 := { stood := { row := stepBackUptoRow, standIns := [], harness := (true, "d878af0dbc85c936a6d327b225ff6c21caf8368a1b1fe6c378e70e2bd0811e3a"), looks := false }, kinds := [], alts := [], laidByText := true, laidKinds := [.data, .data, .pinned], laidTests := true, laidLooks := .later }
def StepBackUptoCardSaid : Prop := Claim7.holds Tryd.pinned (.plain (OpenSpec.upto stepBackSpec)) stepBackUptoCard

/-- THE SECOND FORM's CARD OF 'cartularykeep.StepOnly'. -/
def stepOnlyUptoCard : Claim7 := { stood := { row := stepOnlyUptoRow, standIns := [], harness := (true, "d878af0dbc85c936a6d327b225ff6c21caf8368a1b1fe6c378e70e2bd0811e3a"), looks := false }, kinds := [], alts := [], laidByText := true, laidKinds := [.data, .data, .pinned], laidTests := true, laidLooks := .later }
def StepOnlyUptoCardSaid : Prop := Claim7.holds Tryd.pinned (.plain (OpenSpec.upto stepOnlySpec)) stepOnlyUptoCard

/-- THE SECOND FORM's CARD OF 'cartularykeep.StepParts'. -/
def stepPartsUptoCard : Claim7 := { stood := { row := stepPartsUptoRow, standIns := [], harness := (true, "d878af0dbc85c936a6d327b225ff6c21caf8368a1b1fe6c378e70e2bd0811e3a"), looks := false }, kinds := [], alts := [], laidByText := true, laidKinds := [.data, .data, .pinned], laidTests := true, laidLooks := .later }
def StepPartsUptoCardSaid : Prop := Claim7.holds Tryd.pinned (.plain (OpenSpec.upto stepPartsSpec)) stepPartsUptoCard
end Rows
end Go.Proofs.YtinhjnbgblieeaaDoor
