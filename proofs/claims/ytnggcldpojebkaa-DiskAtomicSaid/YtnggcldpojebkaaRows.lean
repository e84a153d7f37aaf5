/-
  No cell of these rows narrows 'for every input' (looked for: loops, veiled, ifaces, maps, wideKeys, modest, calm, conditions, laid).
  DERIVED. THE GIVEN ROWS OF THIS SEAT. 6 by the template 'for every input the law returns true; each argument reads behind the call as it read before'; 0 by the template 'total and deterministic' (their statements: YtnggcldpojebkaaTotals.lean).
  GIVEN WITH THE SEED: the statements are not yours to turn. If you find one false, say at which input.
  Laid BY PROGRAM, IN A SANDBOX (cutbox-rows.mjs): the forced cells as the released guide's own fill.sh prints them over the translation 556ad60617dc4769… (all of the seat's roots in one cut). By AI agents, Wed Nov 11 2026. No macro, syntax, notation, axiom, sorry.
-/
import Derived.Test.YtnggcldpojebkaaChecked
import GoSem.Claim
import GoSem.ClaimJoined
import GoSem.ClaimMapViews
import Derived.JoinedTies
import Derived.KernelRfl
namespace Go.Proofs.Ytnggcldpojebkaa
/- THE CELL 'sum', in the pinned program and in every row, IS THE sha256 OF THE DUMP (.gsa) THAT YtnggcldpojebkaaProg.lean LOADS. Nothing in Lean hashes anything: it is a label: what it is worth is what the hold of that sum in a sandbox is worth. -/
noncomputable def Try.pinned : Pinned := { name := "ytnggcldpojebkaa", sum := "556ad60617dc4769132bc7f3b85a91339886164ae1f632766d73de94436aca5d", checked := Try.checked }
namespace Rows
def none {H : Type} : Left H := { results := [], args := [] }

/-- 'cartularykeep.DeltaBack': WHATEVER THE INPUT: true; the input reads as it did. -/
def deltaBackSpec : ChangeSpec := { name := "deltaBack", fn := fun _ => fun
  | [d1, d2] => { results := [.lit (.bool true)], args := [d1, d2] }
  | _ => none }
def deltaBackRow : OpenClaim := { program := "ytnggcldpojebkaa", sum := "556ad60617dc4769132bc7f3b85a91339886164ae1f632766d73de94436aca5d", func := "cartulary/cartularykeep.DeltaBack", spec := "deltaBack", unfollowed := true, recurses := true, apart := false }
def DeltaBackSaid : Prop := deltaBackRow.holds Try.pinned (OpenSpec.ofChange deltaBackSpec)

/-- ITS FALSE NEIGHBOUR: 'it returns false'. Refute it at one input. -/
def deltaBackWrong : ChangeSpec := { name := "deltaBack", fn := fun _ => fun
  | [d1, d2] => { results := [.lit (.bool false)], args := [d1, d2] }
  | _ => none }
def DeltaBackWrongFalsely : Prop := deltaBackRow.holds Try.pinned (OpenSpec.ofChange deltaBackWrong)

/-- 'cartularykeep.DeltaSame': WHATEVER THE INPUT: true; the input reads as it did. -/
def deltaSameSpec : ChangeSpec := { name := "deltaSame", fn := fun _ => fun
  | [d1, d2] => { results := [.lit (.bool true)], args := [d1, d2] }
  | _ => none }
def deltaSameRow : OpenClaim := { program := "ytnggcldpojebkaa", sum := "556ad60617dc4769132bc7f3b85a91339886164ae1f632766d73de94436aca5d", func := "cartulary/cartularykeep.DeltaSame", spec := "deltaSame", unfollowed := true, recurses := true, apart := false }
def DeltaSameSaid : Prop := deltaSameRow.holds Try.pinned (OpenSpec.ofChange deltaSameSpec)

/-- ITS FALSE NEIGHBOUR: 'it returns false'. Refute it at one input. -/
def deltaSameWrong : ChangeSpec := { name := "deltaSame", fn := fun _ => fun
  | [d1, d2] => { results := [.lit (.bool false)], args := [d1, d2] }
  | _ => none }
def DeltaSameWrongFalsely : Prop := deltaSameRow.holds Try.pinned (OpenSpec.ofChange deltaSameWrong)

/-- 'cartularykeep.DiskFuse': WHATEVER THE INPUT: true; the input reads as it did. -/
def diskFuseSpec : ChangeSpec := { name := "diskFuse", fn := fun _ => fun
  | [d1, d2, d3, d4] => { results := [.lit (.bool true)], args := [d1, d2, d3, d4] }
  | _ => none }
def diskFuseRow : OpenClaim := { program := "ytnggcldpojebkaa", sum := "556ad60617dc4769132bc7f3b85a91339886164ae1f632766d73de94436aca5d", func := "cartulary/cartularykeep.DiskFuse", spec := "diskFuse", inPlace := ["internal/bytealg.abigen_runtime_cmpstring", "slices.overlaps[cartulary/api.File]"], unfollowed := true, recurses := true, apart := false }
def DiskFuseSaid : Prop := diskFuseRow.holds Try.pinned (OpenSpec.ofChange diskFuseSpec)

/-- ITS FALSE NEIGHBOUR: 'it returns false'. Refute it at one input. -/
def diskFuseWrong : ChangeSpec := { name := "diskFuse", fn := fun _ => fun
  | [d1, d2, d3, d4] => { results := [.lit (.bool false)], args := [d1, d2, d3, d4] }
  | _ => none }
def DiskFuseWrongFalsely : Prop := diskFuseRow.holds Try.pinned (OpenSpec.ofChange diskFuseWrong)

/-- 'cartularykeep.DiskMoved': WHATEVER THE INPUT: true; the input reads as it did. -/
def diskMovedSpec : ChangeSpec := { name := "diskMoved", fn := fun _ => fun
  | [d1, d2, d3] => { results := [.lit (.bool true)], args := [d1, d2, d3] }
  | _ => none }
def diskMovedRow : OpenClaim := { program := "ytnggcldpojebkaa", sum := "556ad60617dc4769132bc7f3b85a91339886164ae1f632766d73de94436aca5d", func := "cartulary/cartularykeep.DiskMoved", spec := "diskMoved", inPlace := ["internal/bytealg.abigen_runtime_cmpstring", "slices.overlaps[cartulary/api.File]"], unfollowed := true, recurses := true, apart := false }
def DiskMovedSaid : Prop := diskMovedRow.holds Try.pinned (OpenSpec.ofChange diskMovedSpec)

/-- ITS FALSE NEIGHBOUR: 'it returns false'. Refute it at one input. -/
def diskMovedWrong : ChangeSpec := { name := "diskMoved", fn := fun _ => fun
  | [d1, d2, d3] => { results := [.lit (.bool false)], args := [d1, d2, d3] }
  | _ => none }
def DiskMovedWrongFalsely : Prop := diskMovedRow.holds Try.pinned (OpenSpec.ofChange diskMovedWrong)

/-- 'cartularykeep.DiskOthers': WHATEVER THE INPUT: true; the input reads as it did. -/
def diskOthersSpec : ChangeSpec := { name := "diskOthers", fn := fun _ => fun
  | [d1, d2, d3, d4, d5] => { results := [.lit (.bool true)], args := [d1, d2, d3, d4, d5] }
  | _ => none }
def diskOthersRow : OpenClaim := { program := "ytnggcldpojebkaa", sum := "556ad60617dc4769132bc7f3b85a91339886164ae1f632766d73de94436aca5d", func := "cartulary/cartularykeep.DiskOthers", spec := "diskOthers", inPlace := ["internal/bytealg.abigen_runtime_cmpstring", "slices.overlaps[cartulary/api.File]"], unfollowed := true, recurses := true, apart := false }
def DiskOthersSaid : Prop := diskOthersRow.holds Try.pinned (OpenSpec.ofChange diskOthersSpec)

/-- ITS FALSE NEIGHBOUR: 'it returns false'. Refute it at one input. -/
def diskOthersWrong : ChangeSpec := { name := "diskOthers", fn := fun _ => fun
  | [d1, d2, d3, d4, d5] => { results := [.lit (.bool false)], args := [d1, d2, d3, d4, d5] }
  | _ => none }
def DiskOthersWrongFalsely : Prop := diskOthersRow.holds Try.pinned (OpenSpec.ofChange diskOthersWrong)

/-- 'cartularykeep.DiskAtomic': WHATEVER THE INPUT: true; the input reads as it did. -/
def diskAtomicSpec : ChangeSpec := { name := "diskAtomic", fn := fun _ => fun
  | [d1, d2, d3, d4, d5] => { results := [.lit (.bool true)], args := [d1, d2, d3, d4, d5] }
  | _ => none }
def diskAtomicRow : OpenClaim := { program := "ytnggcldpojebkaa", sum := "556ad60617dc4769132bc7f3b85a91339886164ae1f632766d73de94436aca5d", func := "cartulary/cartularykeep.DiskAtomic", spec := "diskAtomic", inPlace := ["internal/bytealg.abigen_runtime_cmpstring", "slices.overlaps[cartulary/api.File]"], unfollowed := true, recurses := true, apart := false }
def DiskAtomicSaid : Prop := diskAtomicRow.holds Try.pinned (OpenSpec.ofChange diskAtomicSpec)

/-- ITS FALSE NEIGHBOUR: 'it returns false'. Refute it at one input. -/
def diskAtomicWrong : ChangeSpec := { name := "diskAtomic", fn := fun _ => fun
  | [d1, d2, d3, d4, d5] => { results := [.lit (.bool false)], args := [d1, d2, d3, d4, d5] }
  | _ => none }
def DiskAtomicWrongFalsely : Prop := diskAtomicRow.holds Try.pinned (OpenSpec.ofChange diskAtomicWrong)

/- THE SECOND FORM. 'bulk': how many values and letters a reading holds, each counted each time it is reached (what is shared counts as often as it is met; a slice's spare places count too). A statement '..UptoSaid' is the law's where the arguments, and the package variables that the reading takes, are together of bulk at most 1048576: NARROWER than '..Said'. Prove '..Said' where nothing that the law and all that it calls make is longer than what came in: it says more and counts as full. Else prove '..UptoSaid'. A law counts once. -/
mutual
def uptoBulk {H : Type} : DataW H → Nat
  | .lit (.string bytes) => bytes.length + 1
  | .lit _ => 1
  | .nil => 1
  | .ptr d => uptoBulk d + 1
  | .slice elems spare => uptoBulkAll elems + uptoBulkAll spare + 1
  | .agg parts => uptoBulkAll parts + 1
  | .iface _ d => uptoBulk d + 1
  | .map entries => uptoBulkEntries entries + 1
  | .held _ => 1
def uptoBulkAll {H : Type} : List (DataW H) → Nat
  | [] => 0
  | d :: r => uptoBulk d + uptoBulkAll r
def uptoBulkEntries {H : Type} : List (Lit × DataW H) → Nat
  | [] => 0
  | x :: r => uptoBulkEntry x + uptoBulkEntries r
def uptoBulkEntry {H : Type} : Lit × DataW H → Nat
  | (.string bytes, d) => bytes.length + uptoBulk d + 1
  | (_, d) => uptoBulk d + 1
 end
def uptoSmall : (H : Type) → List (DataW H) → Bool := fun _ ds => decide (uptoBulkAll ds ≤ 1048576)
def OpenSpec.upto (s : _root_.Go.ChangeSpec) : _root_.Go.OpenSpec := { _root_.Go.OpenSpec.ofChange s with cond := some uptoSmall }

/-- 'cartularykeep.DeltaBack', WHERE WHAT IT READS IS OF BULK AT MOST 1048576: true; the input reads as it did. -/
def deltaBackUptoRow : OpenClaim := { program := "ytnggcldpojebkaa", sum := "556ad60617dc4769132bc7f3b85a91339886164ae1f632766d73de94436aca5d", func := "cartulary/cartularykeep.DeltaBack", spec := "deltaBack", unfollowed := true, recurses := true, apart := false, narrowed := true }
def DeltaBackUptoSaid : Prop := deltaBackUptoRow.holds Try.pinned (OpenSpec.upto deltaBackSpec)

/-- 'cartularykeep.DeltaSame', WHERE WHAT IT READS IS OF BULK AT MOST 1048576: true; the input reads as it did. -/
def deltaSameUptoRow : OpenClaim := { program := "ytnggcldpojebkaa", sum := "556ad60617dc4769132bc7f3b85a91339886164ae1f632766d73de94436aca5d", func := "cartulary/cartularykeep.DeltaSame", spec := "deltaSame", unfollowed := true, recurses := true, apart := false, narrowed := true }
def DeltaSameUptoSaid : Prop := deltaSameUptoRow.holds Try.pinned (OpenSpec.upto deltaSameSpec)

/-- 'cartularykeep.DiskFuse', WHERE WHAT IT READS IS OF BULK AT MOST 1048576: true; the input reads as it did. -/
def diskFuseUptoRow : OpenClaim := { program := "ytnggcldpojebkaa", sum := "556ad60617dc4769132bc7f3b85a91339886164ae1f632766d73de94436aca5d", func := "cartulary/cartularykeep.DiskFuse", spec := "diskFuse", inPlace := ["internal/bytealg.abigen_runtime_cmpstring", "slices.overlaps[cartulary/api.File]"], unfollowed := true, recurses := true, apart := false, narrowed := true }
def DiskFuseUptoSaid : Prop := diskFuseUptoRow.holds Try.pinned (OpenSpec.upto diskFuseSpec)

/-- 'cartularykeep.DiskMoved', WHERE WHAT IT READS IS OF BULK AT MOST 1048576: true; the input reads as it did. -/
def diskMovedUptoRow : OpenClaim := { program := "ytnggcldpojebkaa", sum := "556ad60617dc4769132bc7f3b85a91339886164ae1f632766d73de94436aca5d", func := "cartulary/cartularykeep.DiskMoved", spec := "diskMoved", inPlace := ["internal/bytealg.abigen_runtime_cmpstring", "slices.overlaps[cartulary/api.File]"], unfollowed := true, recurses := true, apart := false, narrowed := true }
def DiskMovedUptoSaid : Prop := diskMovedUptoRow.holds Try.pinned (OpenSpec.upto diskMovedSpec)

/-- 'cartularykeep.DiskOthers', WHERE WHAT IT READS IS OF BULK AT MOST 1048576: true; the input reads as it did. -/
def diskOthersUptoRow : OpenClaim := { program := "ytnggcldpojebkaa", sum := "556ad60617dc4769132bc7f3b85a91339886164ae1f632766d73de94436aca5d", func := "cartulary/cartularykeep.DiskOthers", spec := "diskOthers", inPlace := ["internal/bytealg.abigen_runtime_cmpstring", "slices.overlaps[cartulary/api.File]"], unfollowed := true, recurses := true, apart := false, narrowed := true }
def DiskOthersUptoSaid : Prop := diskOthersUptoRow.holds Try.pinned (OpenSpec.upto diskOthersSpec)

/-- 'cartularykeep.DiskAtomic', WHERE WHAT IT READS IS OF BULK AT MOST 1048576: true; the input reads as it did. -/
def diskAtomicUptoRow : OpenClaim := { program := "ytnggcldpojebkaa", sum := "556ad60617dc4769132bc7f3b85a91339886164ae1f632766d73de94436aca5d", func := "cartulary/cartularykeep.DiskAtomic", spec := "diskAtomic", inPlace := ["internal/bytealg.abigen_runtime_cmpstring", "slices.overlaps[cartulary/api.File]"], unfollowed := true, recurses := true, apart := false, narrowed := true }
def DiskAtomicUptoSaid : Prop := diskAtomicUptoRow.holds Try.pinned (OpenSpec.upto diskAtomicSpec)

end Rows
end Go.Proofs.Ytnggcldpojebkaa
