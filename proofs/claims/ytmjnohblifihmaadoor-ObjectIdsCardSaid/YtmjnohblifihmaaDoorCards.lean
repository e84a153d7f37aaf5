/-
  DERIVED. GIVEN WITH THE SEED: THE CARDS: each row of YtmjnohblifihmaaDoorRows.lean that lists a variable, with what it lists TIED to the program's text (the seventh form; the later family's looks); each row that meets fmt, with fmt's text TOLD by the authors' own Lean function (tested against real Go, not proved from fmt's source: count such statements apart). THE CARD IS WHAT COUNTS. Prove the row's statement (the work); the ties are given (YtmjnohblifihmaaDoorTie.lean); close each card by the builder's one call (the guide's Derived/Test/ToyasCard.lean, 'card_holds'). Laid BY PROGRAM, IN A SANDBOX (cutbox-door.mjs). By AI agents, Wed Nov 11 2026. No macro, syntax, notation, axiom, sorry.
-/
import Derived.Test.YtmjnohblifihmaaDoorRows
import GoSem.ClaimSeven
namespace Go.Proofs.YtmjnohblifihmaaDoor
namespace Rows

/-- THE TIED CARD OF 'cartularykeep.ObjectIds'. -/
def objectIdsCard : Claim7 := { stood := { row := objectIdsRow, standIns := [], harness := (true, "9a0b9a4621558ee18990f9f7118a8409f7424bf789466515830693a9522f46ff"), looks := false }, kinds := [], alts := [], laidByText := true, laidKinds := [.data], laidTests := true, laidLooks := .later }
def ObjectIdsCardSaid : Prop := Claim7.holds Tryd.pinned (.plain (OpenSpec.ofChange objectIdsSpec)) objectIdsCard

/-- THE SECOND FORM's CARD OF 'cartularykeep.ObjectIds'. -/
def objectIdsUptoCard : Claim7 := { stood := { row := objectIdsUptoRow, standIns := [], harness := (true, "9a0b9a4621558ee18990f9f7118a8409f7424bf789466515830693a9522f46ff"), looks := false }, kinds := [], alts := [], laidByText := true, laidKinds := [.data], laidTests := true, laidLooks := .later }
def ObjectIdsUptoCardSaid : Prop := Claim7.holds Tryd.pinned (.plain (OpenSpec.upto objectIdsSpec)) objectIdsUptoCard
end Rows
end Go.Proofs.YtmjnohblifihmaaDoor
