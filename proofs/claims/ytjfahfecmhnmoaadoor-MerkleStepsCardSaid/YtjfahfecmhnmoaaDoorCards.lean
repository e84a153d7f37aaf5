/-
  DERIVED. GIVEN WITH THE SEED: THE CARDS: each row of YtjfahfecmhnmoaaDoorRows.lean that lists a variable, with what it lists TIED to the program's text (the seventh form; the later family's looks); each row that meets fmt, with fmt's text TOLD by the authors' own Lean function (tested against real Go, not proved from fmt's source: count such statements apart). THE CARD IS WHAT COUNTS. Prove the row's statement (the work); the ties are given (YtjfahfecmhnmoaaDoorTie.lean); close each card by the builder's one call (the guide's Derived/Test/ToyasCard.lean, 'card_holds'). Laid BY PROGRAM, IN A SANDBOX (cutbox-door.mjs). By AI agents, Wed Nov 11 2026. No macro, syntax, notation, axiom, sorry.
-/
import Derived.Test.YtjfahfecmhnmoaaDoorRows
import GoSem.ClaimSeven
namespace Go.Proofs.YtjfahfecmhnmoaaDoor
namespace Rows

/-- THE TIED CARD OF 'cartularykeep.MerkleClash'. -/
def merkleClashCard : Claim7 := { stood := { row := merkleClashRow, standIns := [], harness := (true, "66fef3ac8236dc045381d953ec0cb31f8898159f0ee37a362d2b392e7e39fe9f"), looks := false }, kinds := [], alts := [], laidByText := true, laidKinds := [.data], laidTests := true, laidLooks := .later }
def MerkleClashCardSaid : Prop := Claim7.holds Tryd.pinned (.plain (OpenSpec.ofChange merkleClashSpec)) merkleClashCard

/-- THE TIED CARD OF 'cartularykeep.MerkleBinds'. -/
def merkleBindsCard : Claim7 := { stood := { row := merkleBindsRow, standIns := [], harness := (true, "66fef3ac8236dc045381d953ec0cb31f8898159f0ee37a362d2b392e7e39fe9f"), looks := false }, kinds := [], alts := [], laidByText := true, laidKinds := [.data], laidTests := true, laidLooks := .later }
def MerkleBindsCardSaid : Prop := Claim7.holds Tryd.pinned (.plain (OpenSpec.ofChange merkleBindsSpec)) merkleBindsCard

/-- THE TIED CARD OF 'cartularykeep.MerklePaths'. -/
def merklePathsCard : Claim7 := { stood := { row := merklePathsRow, standIns := [], harness := (true, "66fef3ac8236dc045381d953ec0cb31f8898159f0ee37a362d2b392e7e39fe9f"), looks := false }, kinds := [], alts := [], laidByText := true, laidKinds := [.data], laidTests := true, laidLooks := .later }
def MerklePathsCardSaid : Prop := Claim7.holds Tryd.pinned (.plain (OpenSpec.ofChange merklePathsSpec)) merklePathsCard

/-- THE TIED CARD OF 'cartularykeep.MerkleGrows'. -/
def merkleGrowsCard : Claim7 := { stood := { row := merkleGrowsRow, standIns := [], harness := (true, "66fef3ac8236dc045381d953ec0cb31f8898159f0ee37a362d2b392e7e39fe9f"), looks := false }, kinds := [], alts := [], laidByText := true, laidKinds := [.data], laidTests := true, laidLooks := .later }
def MerkleGrowsCardSaid : Prop := Claim7.holds Tryd.pinned (.plain (OpenSpec.ofChange merkleGrowsSpec)) merkleGrowsCard

/-- THE TIED CARD OF 'cartularykeep.MerkleSteps'. -/
def merkleStepsCard : Claim7 := { stood := { row := merkleStepsRow, standIns := [], harness := (true, "66fef3ac8236dc045381d953ec0cb31f8898159f0ee37a362d2b392e7e39fe9f"), looks := false }, kinds := [], alts := [], laidByText := true, laidKinds := [.data], laidTests := true, laidLooks := .later }
def MerkleStepsCardSaid : Prop := Claim7.holds Tryd.pinned (.plain (OpenSpec.ofChange merkleStepsSpec)) merkleStepsCard

/-- THE SECOND FORM's CARD OF 'cartularykeep.MerkleClash'. -/
def merkleClashUptoCard : Claim7 := { stood := { row := merkleClashUptoRow, standIns := [], harness := (true, "66fef3ac8236dc045381d953ec0cb31f8898159f0ee37a362d2b392e7e39fe9f"), looks := false }, kinds := [], alts := [], laidByText := true, laidKinds := [.data], laidTests := true, laidLooks := .later }
def MerkleClashUptoCardSaid : Prop := Claim7.holds Tryd.pinned (.plain (OpenSpec.upto merkleClashSpec)) merkleClashUptoCard

/-- THE SECOND FORM's CARD OF 'cartularykeep.MerkleBinds'. -/
def merkleBindsUptoCard : Claim7 := { stood := { row := merkleBindsUptoRow, standIns := [], harness := (true, "66fef3ac8236dc045381d953ec0cb31f8898159f0ee37a362d2b392e7e39fe9f"), looks := false }, kinds := [], alts := [], laidByText := true, laidKinds := [.data], laidTests := true, laidLooks := .later }
def MerkleBindsUptoCardSaid : Prop := Claim7.holds Tryd.pinned (.plain (OpenSpec.upto merkleBindsSpec)) merkleBindsUptoCard

/-- THE SECOND FORM's CARD OF 'cartularykeep.MerklePaths'. -/
def merklePathsUptoCard : Claim7 := { stood := { row := merklePathsUptoRow, standIns := [], harness := (true, "66fef3ac8236dc045381d953ec0cb31f8898159f0ee37a362d2b392e7e39fe9f"), looks := false }, kinds := [], alts := [], laidByText := true, laidKinds := [.data], laidTests := true, laidLooks := .later }
def MerklePathsUptoCardSaid : Prop := Claim7.holds Tryd.pinned (.plain (OpenSpec.upto merklePathsSpec)) merklePathsUptoCard

/-- THE SECOND FORM's CARD OF 'cartularykeep.MerkleGrows'. -/
def merkleGrowsUptoCard : Claim7 := { stood := { row := merkleGrowsUptoRow, standIns := [], harness := (true, "66fef3ac8236dc045381d953ec0cb31f8898159f0ee37a362d2b392e7e39fe9f"), looks := false }, kinds := [], alts := [], laidByText := true, laidKinds := [.data], laidTests := true, laidLooks := .later }
def MerkleGrowsUptoCardSaid : Prop := Claim7.holds Tryd.pinned (.plain (OpenSpec.upto merkleGrowsSpec)) merkleGrowsUptoCard

/-- THE SECOND FORM's CARD OF 'cartularykeep.MerkleSteps'. -/
def merkleStepsUptoCard : Claim7 := { stood := { row := merkleStepsUptoRow, standIns := [], harness := (true, "66fef3ac8236dc045381d953ec0cb31f8898159f0ee37a362d2b392e7e39fe9f"), looks := false }, kinds := [], alts := [], laidByText := true, laidKinds := [.data], laidTests := true, laidLooks := .later }
def MerkleStepsUptoCardSaid : Prop := Claim7.holds Tryd.pinned (.plain (OpenSpec.upto merkleStepsSpec)) merkleStepsUptoCard
end Rows
end Go.Proofs.YtjfahfecmhnmoaaDoor
