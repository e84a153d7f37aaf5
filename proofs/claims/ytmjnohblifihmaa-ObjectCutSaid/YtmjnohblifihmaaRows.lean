/-
  No cell of these rows narrows 'for every input' (looked for: loops, veiled, ifaces, maps, wideKeys, modest, calm, conditions, laid).
  DERIVED. THE GIVEN ROWS OF THIS SEAT. 3 by the template 'for every input the law returns true; each argument reads behind the call as it read before'; 0 by the template 'total and deterministic' (their statements: YtmjnohblifihmaaTotals.lean).
  GIVEN WITH THE SEED: the statements are not yours to turn. If you find one false, say at which input.
  Laid BY PROGRAM, IN A SANDBOX (cutbox-rows.mjs): the forced cells as the released guide's own fill.sh prints them over the translation 5afbc8fd31800629… (all of the seat's roots in one cut). By AI agents, Wed Nov 11 2026. No macro, syntax, notation, axiom, sorry.
-/
import Derived.Test.YtmjnohblifihmaaChecked
import GoSem.Claim
import GoSem.ClaimJoined
import GoSem.ClaimMapViews
import Derived.JoinedTies
import Derived.KernelRfl
namespace Go.Proofs.Ytmjnohblifihmaa
/- THE CELL 'sum', in the pinned program and in every row, IS THE sha256 OF THE DUMP (.gsa) THAT YtmjnohblifihmaaProg.lean LOADS. Nothing in Lean hashes anything: it is a label: what it is worth is what the hold of that sum in a sandbox is worth. -/
noncomputable def Try.pinned : Pinned := { name := "ytmjnohblifihmaa", sum := "5afbc8fd31800629430bad32c6055ef33afb52468080fb4934d121b33b0ed832", checked := Try.checked }
namespace Rows
def none {H : Type} : Left H := { results := [], args := [] }

/-- 'cartularykeep.ObjectBack': WHATEVER THE INPUT: true; the input reads as it did. -/
def objectBackSpec : ChangeSpec := { name := "objectBack", fn := fun _ => fun
  | [d] => { results := [.lit (.bool true)], args := [d] }
  | _ => none }
def objectBackRow : OpenClaim := { program := "ytmjnohblifihmaa", sum := "5afbc8fd31800629430bad32c6055ef33afb52468080fb4934d121b33b0ed832", func := "cartulary/cartularykeep.ObjectBack", spec := "objectBack", unfollowed := true, recurses := true, apart := false }
def ObjectBackSaid : Prop := objectBackRow.holds Try.pinned (OpenSpec.ofChange objectBackSpec)

/-- ITS FALSE NEIGHBOUR: 'it returns false'. Refute it at one input. -/
def objectBackWrong : ChangeSpec := { name := "objectBack", fn := fun _ => fun
  | [d] => { results := [.lit (.bool false)], args := [d] }
  | _ => none }
def ObjectBackWrongFalsely : Prop := objectBackRow.holds Try.pinned (OpenSpec.ofChange objectBackWrong)

/-- 'cartularykeep.ObjectOnly': WHATEVER THE INPUT: true; the input reads as it did. -/
def objectOnlySpec : ChangeSpec := { name := "objectOnly", fn := fun _ => fun
  | [d] => { results := [.lit (.bool true)], args := [d] }
  | _ => none }
def objectOnlyRow : OpenClaim := { program := "ytmjnohblifihmaa", sum := "5afbc8fd31800629430bad32c6055ef33afb52468080fb4934d121b33b0ed832", func := "cartulary/cartularykeep.ObjectOnly", spec := "objectOnly", unfollowed := true, recurses := true, apart := false }
def ObjectOnlySaid : Prop := objectOnlyRow.holds Try.pinned (OpenSpec.ofChange objectOnlySpec)

/-- ITS FALSE NEIGHBOUR: 'it returns false'. Refute it at one input. -/
def objectOnlyWrong : ChangeSpec := { name := "objectOnly", fn := fun _ => fun
  | [d] => { results := [.lit (.bool false)], args := [d] }
  | _ => none }
def ObjectOnlyWrongFalsely : Prop := objectOnlyRow.holds Try.pinned (OpenSpec.ofChange objectOnlyWrong)

/-- 'cartularykeep.ObjectCut': WHATEVER THE INPUT: true; the input reads as it did. -/
def objectCutSpec : ChangeSpec := { name := "objectCut", fn := fun _ => fun
  | [d1, d2] => { results := [.lit (.bool true)], args := [d1, d2] }
  | _ => none }
def objectCutRow : OpenClaim := { program := "ytmjnohblifihmaa", sum := "5afbc8fd31800629430bad32c6055ef33afb52468080fb4934d121b33b0ed832", func := "cartulary/cartularykeep.ObjectCut", spec := "objectCut", unfollowed := true, recurses := true, apart := false }
def ObjectCutSaid : Prop := objectCutRow.holds Try.pinned (OpenSpec.ofChange objectCutSpec)

/-- ITS FALSE NEIGHBOUR: 'it returns false'. Refute it at one input. -/
def objectCutWrong : ChangeSpec := { name := "objectCut", fn := fun _ => fun
  | [d1, d2] => { results := [.lit (.bool false)], args := [d1, d2] }
  | _ => none }
def ObjectCutWrongFalsely : Prop := objectCutRow.holds Try.pinned (OpenSpec.ofChange objectCutWrong)

/- THE SECOND FORM. 'bulk': how many values and letters a reading holds, each counted each time it is reached (what is shared counts as often as it is met; a slice's spare places count too). A statement '..UptoSaid' is the law's where the arguments, and the package variables that the reading takes, are together of bulk at most 1048576: NARROWER than '..Said'. Prove '..Said' where nothing that the law and all that it calls make is longer than what came in: it says more and counts as full. Else prove '..UptoSaid'. A law counts once. -/
mutual
def uptoBulk {H : Type} : DataW H → Nat
  | .lit (.string bytes) => bytes.length + 1
  | .lit _ => 1
  | .nil => 1
  | .ptr d => uptoBulk d + 1
  | .slice elems spare => uptoBulkAll elems + uptoBulkAll spare + 1
  | .agg parts => uptoBulkAll parts + 1
  | .iface _ d => uptoBulk d + 1
  | .map entries => uptoBulkEntries entries + 1
  | .held _ => 1
def uptoBulkAll {H : Type} : List (DataW H) → Nat
  | [] => 0
  | d :: r => uptoBulk d + uptoBulkAll r
def uptoBulkEntries {H : Type} : List (Lit × DataW H) → Nat
  | [] => 0
  | x :: r => uptoBulkEntry x + uptoBulkEntries r
def uptoBulkEntry {H : Type} : Lit × DataW H → Nat
  | (.string bytes, d) => bytes.length + uptoBulk d + 1
  | (_, d) => uptoBulk d + 1
 end
def uptoSmall : (H : Type) → List (DataW H) → Bool := fun _ ds => decide (uptoBulkAll ds ≤ 1048576)
def OpenSpec.upto (s : _root_.Go.ChangeSpec) : _root_.Go.OpenSpec := { _root_.Go.OpenSpec.ofChange s with cond := some uptoSmall }

/-- 'cartularykeep.ObjectBack', WHERE WHAT IT READS IS OF BULK AT MOST 1048576: true; the input reads as it did. -/
def objectBackUptoRow : OpenClaim := { program := "ytmjnohblifihmaa", sum := "5afbc8fd31800629430bad32c6055ef33afb52468080fb4934d121b33b0ed832", func := "cartulary/cartularykeep.ObjectBack", spec := "objectBack", unfollowed := true, recurses := true, apart := false, narrowed := true }
def ObjectBackUptoSaid : Prop := objectBackUptoRow.holds Try.pinned (OpenSpec.upto objectBackSpec)

/-- 'cartularykeep.ObjectOnly', WHERE WHAT IT READS IS OF BULK AT MOST 1048576: true; the input reads as it did. -/
def objectOnlyUptoRow : OpenClaim := { program := "ytmjnohblifihmaa", sum := "5afbc8fd31800629430bad32c6055ef33afb52468080fb4934d121b33b0ed832", func := "cartulary/cartularykeep.ObjectOnly", spec := "objectOnly", unfollowed := true, recurses := true, apart := false, narrowed := true }
def ObjectOnlyUptoSaid : Prop := objectOnlyUptoRow.holds Try.pinned (OpenSpec.upto objectOnlySpec)

/-- 'cartularykeep.ObjectCut', WHERE WHAT IT READS IS OF BULK AT MOST 1048576: true; the input reads as it did. -/
def objectCutUptoRow : OpenClaim := { program := "ytmjnohblifihmaa", sum := "5afbc8fd31800629430bad32c6055ef33afb52468080fb4934d121b33b0ed832", func := "cartulary/cartularykeep.ObjectCut", spec := "objectCut", unfollowed := true, recurses := true, apart := false, narrowed := true }
def ObjectCutUptoSaid : Prop := objectCutUptoRow.holds Try.pinned (OpenSpec.upto objectCutSpec)

end Rows
end Go.Proofs.Ytmjnohblifihmaa
