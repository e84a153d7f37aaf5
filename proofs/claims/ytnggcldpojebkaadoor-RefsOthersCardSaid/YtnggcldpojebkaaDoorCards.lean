/-
  DERIVED. GIVEN WITH THE SEED: THE CARDS: each row of YtnggcldpojebkaaDoorRows.lean that lists a variable, with what it lists TIED to the program's text (the seventh form; the later family's looks); each row that meets fmt, with fmt's text TOLD by the authors' own Lean function (tested against real Go, not proved from fmt's source: count such statements apart). THE CARD IS WHAT COUNTS. Prove the row's statement (the work); the ties are given (YtnggcldpojebkaaDoorTie.lean); close each card by the builder's one call (the guide's Derived/Test/ToyasCard.lean, 'card_holds'). Laid BY PROGRAM, IN A SANDBOX (cutbox-door.mjs). By AI agents, Wed Nov 11 2026. No macro, syntax, notation, axiom, sorry.
-/
import Derived.Test.YtnggcldpojebkaaDoorRows
import GoSem.ClaimSeven
namespace Go.Proofs.YtnggcldpojebkaaDoor
namespace Rows

/-- THE TIED CARD OF 'cartularykeep.RefsBack'. -/
def refsBackCard : Claim7 := { stood := { row := refsBackRow, standIns := [], harness := (true, "9f1f05437a4057893407698bb4dca625c74d305b661e40a5e0017275aa68a0f9"), looks := false }, kinds := [], alts := [], laidByText := true, laidKinds := [.data, .pinned], laidTests := true, laidLooks := .later }
def RefsBackCardSaid : Prop := Claim7.holds Tryd.pinned (.plain (OpenSpec.ofChange refsBackSpec)) refsBackCard

/-- THE TIED CARD OF 'cartularykeep.RefsOthers'. -/
def refsOthersCard : Claim7 := { stood := { row := refsOthersRow, standIns := [], harness := (true, "9f1f05437a4057893407698bb4dca625c74d305b661e40a5e0017275aa68a0f9"), looks := false }, kinds := [], alts := [], laidByText := true, laidKinds := [.data, .pinned], laidTests := true, laidLooks := .later }
def RefsOthersCardSaid : Prop := Claim7.holds Tryd.pinned (.plain (OpenSpec.ofChange refsOthersSpec)) refsOthersCard

/-- THE SECOND FORM's CARD OF 'cartularykeep.RefsBack'. -/
def refsBackUptoCard : Claim7 := { stood := { row := refsBackUptoRow, standIns := [], harness := (true, "9f1f05437a4057893407698bb4dca625c74d305b661e40a5e0017275aa68a0f9"), looks := false }, kinds := [], alts := [], laidByText := true, laidKinds := [.data, .pinned], laidTests := true, laidLooks := .later }
def RefsBackUptoCardSaid : Prop := Claim7.holds Tryd.pinned (.plain (OpenSpec.upto refsBackSpec)) refsBackUptoCard

/-- THE SECOND FORM's CARD OF 'cartularykeep.RefsOthers'. -/
def refsOthersUptoCard : Claim7 := { stood := { row := refsOthersUptoRow, standIns := [], harness := (true, "9f1f05437a4057893407698bb4dca625c74d305b661e40a5e0017275aa68a0f9"), looks := false }, kinds := [], alts := [], laidByText := true, laidKinds := [.data, .pinned], laidTests := true, laidLooks := .later }
def RefsOthersUptoCardSaid : Prop := Claim7.holds Tryd.pinned (.plain (OpenSpec.upto refsOthersSpec)) refsOthersUptoCard
end Rows
end Go.Proofs.YtnggcldpojebkaaDoor
