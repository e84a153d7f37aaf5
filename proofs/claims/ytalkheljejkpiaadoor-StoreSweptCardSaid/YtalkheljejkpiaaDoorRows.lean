/-
  NARROWER THAN 'FOR EVERY INPUT', by the rows' own cells (each row's printed sentence says how): PackBack: laid · PackTurned: laid · PackThin: laid · StoreBack: laid · StoreOnward: laid · StoreClosed: laid · StoreSwept: laid.
  DERIVED. THE GIVEN ROWS OF THIS SEAT. 7 by the template 'for every input the law returns true; each argument reads behind the call as it read before'; 0 by the template 'total and deterministic' (their statements: YtalkheljejkpiaaDoorTotals.lean).
  GIVEN WITH THE SEED: the statements are not yours to turn. If you find one false, say at which input.
  Laid BY PROGRAM, IN A SANDBOX (cutbox-rows.mjs): the forced cells as the released guide's own fill.sh prints them over the translation 893629c5a4276848… (all of the seat's roots in one cut). By AI agents, Wed Nov 11 2026. No macro, syntax, notation, axiom, sorry.
-/
import Derived.Test.YtalkheljejkpiaaDoorChecked
import GoSem.Claim
import GoSem.ClaimJoined
import GoSem.ClaimMapViews
import Derived.JoinedTies
import Derived.KernelRfl
namespace Go.Proofs.YtalkheljejkpiaaDoor
/- THE CELL 'sum', in the pinned program and in every row, IS THE sha256 OF THE DUMP (.gsa) THAT YtalkheljejkpiaaDoorProg.lean LOADS. Nothing in Lean hashes anything: it is a label: what it is worth is what the hold of that sum in a sandbox is worth. -/
noncomputable def Tryd.pinned : Pinned := { name := "ytalkheljejkpiaadoor", sum := "893629c5a42768481ba4754c3bdc1eb9cd4ee96c30195b9b92e8ed77d0872c19", checked := Tryd.checked }
namespace Rows
def none {H : Type} : Left H := { results := [], args := [] }

/- WHAT THE LISTED PACKAGE-LEVEL VARIABLES READ AS WHEN THE CALL BEGINS. Each datum BY PROGRAM (the guide's laid-datum.mjs) off the statement by which the dump's own 'gosem.cut.vars' lays the variable. In a bare row this is a premise. The card (YtalkheljejkpiaaDoorCards.lean) ties it to the program's text. -/
def laid_cartulary_sum_table {H : Type} : DataW H := .agg [.lit (.int .u32 1116352408), .lit (.int .u32 1899447441), .lit (.int .u32 3049323471), .lit (.int .u32 3921009573), .lit (.int .u32 961987163), .lit (.int .u32 1508970993), .lit (.int .u32 2453635748), .lit (.int .u32 2870763221), .lit (.int .u32 3624381080), .lit (.int .u32 310598401), .lit (.int .u32 607225278), .lit (.int .u32 1426881987), .lit (.int .u32 1925078388), .lit (.int .u32 2162078206), .lit (.int .u32 2614888103), .lit (.int .u32 3248222580), .lit (.int .u32 3835390401), .lit (.int .u32 4022224774), .lit (.int .u32 264347078), .lit (.int .u32 604807628), .lit (.int .u32 770255983), .lit (.int .u32 1249150122), .lit (.int .u32 1555081692), .lit (.int .u32 1996064986), .lit (.int .u32 2554220882), .lit (.int .u32 2821834349), .lit (.int .u32 2952996808), .lit (.int .u32 3210313671), .lit (.int .u32 3336571891), .lit (.int .u32 3584528711), .lit (.int .u32 113926993), .lit (.int .u32 338241895), .lit (.int .u32 666307205), .lit (.int .u32 773529912), .lit (.int .u32 1294757372), .lit (.int .u32 1396182291), .lit (.int .u32 1695183700), .lit (.int .u32 1986661051), .lit (.int .u32 2177026350), .lit (.int .u32 2456956037), .lit (.int .u32 2730485921), .lit (.int .u32 2820302411), .lit (.int .u32 3259730800), .lit (.int .u32 3345764771), .lit (.int .u32 3516065817), .lit (.int .u32 3600352804), .lit (.int .u32 4094571909), .lit (.int .u32 275423344), .lit (.int .u32 430227734), .lit (.int .u32 506948616), .lit (.int .u32 659060556), .lit (.int .u32 883997877), .lit (.int .u32 958139571), .lit (.int .u32 1322822218), .lit (.int .u32 1537002063), .lit (.int .u32 1747873779), .lit (.int .u32 1955562222), .lit (.int .u32 2024104815), .lit (.int .u32 2227730452), .lit (.int .u32 2361852424), .lit (.int .u32 2428436474), .lit (.int .u32 2756734187), .lit (.int .u32 3204031479), .lit (.int .u32 3329325298)]

/-- 'cartularykeep.PackBack': WHATEVER THE INPUT: true; the input reads as it did. -/
def packBackSpec : ChangeSpec := { name := "packBack", fn := fun _ => fun
  | [d1, d2, d3] => { results := [.lit (.bool true)], args := [d1, d2, d3] }
  | _ => none }
def packBackRow : OpenClaim := { program := "ytalkheljejkpiaadoor", sum := "893629c5a42768481ba4754c3bdc1eb9cd4ee96c30195b9b92e8ed77d0872c19", func := "cartulary/cartularykeep.PackBack", spec := "packBack", unfollowed := true, recurses := true, named := ["cartulary/sum.table"], apart := false, laid := [("cartulary/sum.table", laid_cartulary_sum_table)] }
def PackBackSaid : Prop := packBackRow.holds Tryd.pinned (OpenSpec.ofChange packBackSpec)

/-- ITS FALSE NEIGHBOUR: 'it returns false'. Refute it at one input. -/
def packBackWrong : ChangeSpec := { name := "packBack", fn := fun _ => fun
  | [d1, d2, d3] => { results := [.lit (.bool false)], args := [d1, d2, d3] }
  | _ => none }
def PackBackWrongFalsely : Prop := packBackRow.holds Tryd.pinned (OpenSpec.ofChange packBackWrong)

/-- 'cartularykeep.PackTurned': WHATEVER THE INPUT: true; the input reads as it did. -/
def packTurnedSpec : ChangeSpec := { name := "packTurned", fn := fun _ => fun
  | [d1, d2, d3, d4] => { results := [.lit (.bool true)], args := [d1, d2, d3, d4] }
  | _ => none }
def packTurnedRow : OpenClaim := { program := "ytalkheljejkpiaadoor", sum := "893629c5a42768481ba4754c3bdc1eb9cd4ee96c30195b9b92e8ed77d0872c19", func := "cartulary/cartularykeep.PackTurned", spec := "packTurned", unfollowed := true, recurses := true, named := ["cartulary/sum.table"], apart := false, laid := [("cartulary/sum.table", laid_cartulary_sum_table)] }
def PackTurnedSaid : Prop := packTurnedRow.holds Tryd.pinned (OpenSpec.ofChange packTurnedSpec)

/-- ITS FALSE NEIGHBOUR: 'it returns false'. Refute it at one input. -/
def packTurnedWrong : ChangeSpec := { name := "packTurned", fn := fun _ => fun
  | [d1, d2, d3, d4] => { results := [.lit (.bool false)], args := [d1, d2, d3, d4] }
  | _ => none }
def PackTurnedWrongFalsely : Prop := packTurnedRow.holds Tryd.pinned (OpenSpec.ofChange packTurnedWrong)

/-- 'cartularykeep.PackThin': WHATEVER THE INPUT: true; the input reads as it did. -/
def packThinSpec : ChangeSpec := { name := "packThin", fn := fun _ => fun
  | [d1, d2] => { results := [.lit (.bool true)], args := [d1, d2] }
  | _ => none }
def packThinRow : OpenClaim := { program := "ytalkheljejkpiaadoor", sum := "893629c5a42768481ba4754c3bdc1eb9cd4ee96c30195b9b92e8ed77d0872c19", func := "cartulary/cartularykeep.PackThin", spec := "packThin", unfollowed := true, recurses := true, named := ["cartulary/sum.table"], apart := false, laid := [("cartulary/sum.table", laid_cartulary_sum_table)] }
def PackThinSaid : Prop := packThinRow.holds Tryd.pinned (OpenSpec.ofChange packThinSpec)

/-- ITS FALSE NEIGHBOUR: 'it returns false'. Refute it at one input. -/
def packThinWrong : ChangeSpec := { name := "packThin", fn := fun _ => fun
  | [d1, d2] => { results := [.lit (.bool false)], args := [d1, d2] }
  | _ => none }
def PackThinWrongFalsely : Prop := packThinRow.holds Tryd.pinned (OpenSpec.ofChange packThinWrong)

/-- 'cartularykeep.StoreBack': WHATEVER THE INPUT: true; the input reads as it did. -/
def storeBackSpec : ChangeSpec := { name := "storeBack", fn := fun _ => fun
  | [d1, d2, d3, d4] => { results := [.lit (.bool true)], args := [d1, d2, d3, d4] }
  | _ => none }
def storeBackRow : OpenClaim := { program := "ytalkheljejkpiaadoor", sum := "893629c5a42768481ba4754c3bdc1eb9cd4ee96c30195b9b92e8ed77d0872c19", func := "cartulary/cartularykeep.StoreBack", spec := "storeBack", inPlace := ["internal/bytealg.abigen_runtime_cmpstring", "slices.overlaps[cartulary/api.File]"], unfollowed := true, recurses := true, named := ["cartulary/sum.table"], apart := false, laid := [("cartulary/sum.table", laid_cartulary_sum_table)] }
def StoreBackSaid : Prop := storeBackRow.holds Tryd.pinned (OpenSpec.ofChange storeBackSpec)

/-- ITS FALSE NEIGHBOUR: 'it returns false'. Refute it at one input. -/
def storeBackWrong : ChangeSpec := { name := "storeBack", fn := fun _ => fun
  | [d1, d2, d3, d4] => { results := [.lit (.bool false)], args := [d1, d2, d3, d4] }
  | _ => none }
def StoreBackWrongFalsely : Prop := storeBackRow.holds Tryd.pinned (OpenSpec.ofChange storeBackWrong)

/-- 'cartularykeep.StoreOnward': WHATEVER THE INPUT: true; the input reads as it did. -/
def storeOnwardSpec : ChangeSpec := { name := "storeOnward", fn := fun _ => fun
  | [d1, d2, d3, d4] => { results := [.lit (.bool true)], args := [d1, d2, d3, d4] }
  | _ => none }
def storeOnwardRow : OpenClaim := { program := "ytalkheljejkpiaadoor", sum := "893629c5a42768481ba4754c3bdc1eb9cd4ee96c30195b9b92e8ed77d0872c19", func := "cartulary/cartularykeep.StoreOnward", spec := "storeOnward", inPlace := ["internal/bytealg.abigen_runtime_cmpstring", "slices.overlaps[cartulary/api.File]"], unfollowed := true, recurses := true, named := ["cartulary/sum.table"], apart := false, laid := [("cartulary/sum.table", laid_cartulary_sum_table)] }
def StoreOnwardSaid : Prop := storeOnwardRow.holds Tryd.pinned (OpenSpec.ofChange storeOnwardSpec)

/-- ITS FALSE NEIGHBOUR: 'it returns false'. Refute it at one input. -/
def storeOnwardWrong : ChangeSpec := { name := "storeOnward", fn := fun _ => fun
  | [d1, d2, d3, d4] => { results := [.lit (.bool false)], args := [d1, d2, d3, d4] }
  | _ => none }
def StoreOnwardWrongFalsely : Prop := storeOnwardRow.holds Tryd.pinned (OpenSpec.ofChange storeOnwardWrong)

/-- 'cartularykeep.StoreClosed': WHATEVER THE INPUT: true; the input reads as it did. -/
def storeClosedSpec : ChangeSpec := { name := "storeClosed", fn := fun _ => fun
  | [d1, d2, d3] => { results := [.lit (.bool true)], args := [d1, d2, d3] }
  | _ => none }
def storeClosedRow : OpenClaim := { program := "ytalkheljejkpiaadoor", sum := "893629c5a42768481ba4754c3bdc1eb9cd4ee96c30195b9b92e8ed77d0872c19", func := "cartulary/cartularykeep.StoreClosed", spec := "storeClosed", inPlace := ["internal/bytealg.abigen_runtime_cmpstring", "slices.overlaps[cartulary/api.File]"], unfollowed := true, recurses := true, named := ["cartulary/sum.table"], apart := false, laid := [("cartulary/sum.table", laid_cartulary_sum_table)] }
def StoreClosedSaid : Prop := storeClosedRow.holds Tryd.pinned (OpenSpec.ofChange storeClosedSpec)

/-- ITS FALSE NEIGHBOUR: 'it returns false'. Refute it at one input. -/
def storeClosedWrong : ChangeSpec := { name := "storeClosed", fn := fun _ => fun
  | [d1, d2, d3] => { results := [.lit (.bool false)], args := [d1, d2, d3] }
  | _ => none }
def StoreClosedWrongFalsely : Prop := storeClosedRow.holds Tryd.pinned (OpenSpec.ofChange storeClosedWrong)

/-- 'cartularykeep.StoreSwept': WHATEVER THE INPUT: true; the input reads as it did. -/
def storeSweptSpec : ChangeSpec := { name := "storeSwept", fn := fun _ => fun
  | [d1, d2, d3] => { results := [.lit (.bool true)], args := [d1, d2, d3] }
  | _ => none }
def storeSweptRow : OpenClaim := { program := "ytalkheljejkpiaadoor", sum := "893629c5a42768481ba4754c3bdc1eb9cd4ee96c30195b9b92e8ed77d0872c19", func := "cartulary/cartularykeep.StoreSwept", spec := "storeSwept", inPlace := ["internal/bytealg.abigen_runtime_cmpstring", "slices.overlaps[cartulary/api.File]"], unfollowed := true, recurses := true, named := ["cartulary/sum.table"], apart := false, laid := [("cartulary/sum.table", laid_cartulary_sum_table)] }
def StoreSweptSaid : Prop := storeSweptRow.holds Tryd.pinned (OpenSpec.ofChange storeSweptSpec)

/-- ITS FALSE NEIGHBOUR: 'it returns false'. Refute it at one input. -/
def storeSweptWrong : ChangeSpec := { name := "storeSwept", fn := fun _ => fun
  | [d1, d2, d3] => { results := [.lit (.bool false)], args := [d1, d2, d3] }
  | _ => none }
def StoreSweptWrongFalsely : Prop := storeSweptRow.holds Tryd.pinned (OpenSpec.ofChange storeSweptWrong)

/- THE SECOND FORM. 'bulk': how many values and letters a reading holds, each counted each time it is reached (what is shared counts as often as it is met; a slice's spare places count too). A statement '..UptoSaid' is the law's where the arguments, and the package variables that the reading takes, are together of bulk at most 1048576: NARROWER than '..Said'. Prove '..Said' where nothing that the law and all that it calls make is longer than what came in: it says more and counts as full. Else prove '..UptoSaid'. A law counts once. -/
mutual
def uptoBulk {H : Type} : DataW H → Nat
  | .lit (.string bytes) => bytes.length + 1
  | .lit _ => 1
  | .nil => 1
  | .ptr d => uptoBulk d + 1
  | .slice elems spare => uptoBulkAll elems + uptoBulkAll spare + 1
  | .agg parts => uptoBulkAll parts + 1
  | .iface _ d => uptoBulk d + 1
  | .map entries => uptoBulkEntries entries + 1
  | .held _ => 1
def uptoBulkAll {H : Type} : List (DataW H) → Nat
  | [] => 0
  | d :: r => uptoBulk d + uptoBulkAll r
def uptoBulkEntries {H : Type} : List (Lit × DataW H) → Nat
  | [] => 0
  | x :: r => uptoBulkEntry x + uptoBulkEntries r
def uptoBulkEntry {H : Type} : Lit × DataW H → Nat
  | (.string bytes, d) => bytes.length + uptoBulk d + 1
  | (_, d) => uptoBulk d + 1
 end
def uptoSmall : (H : Type) → List (DataW H) → Bool := fun _ ds => decide (uptoBulkAll ds ≤ 1048576)
def OpenSpec.upto (s : _root_.Go.ChangeSpec) : _root_.Go.OpenSpec := { _root_.Go.OpenSpec.ofChange s with cond := some uptoSmall }

/-- 'cartularykeep.PackBack', WHERE WHAT IT READS IS OF BULK AT MOST 1048576: true; the input reads as it did. -/
def packBackUptoRow : OpenClaim := { program := "ytalkheljejkpiaadoor", sum := "893629c5a42768481ba4754c3bdc1eb9cd4ee96c30195b9b92e8ed77d0872c19", func := "cartulary/cartularykeep.PackBack", spec := "packBack", unfollowed := true, recurses := true, named := ["cartulary/sum.table"], apart := false, laid := [("cartulary/sum.table", laid_cartulary_sum_table)], narrowed := true }
def PackBackUptoSaid : Prop := packBackUptoRow.holds Tryd.pinned (OpenSpec.upto packBackSpec)

/-- 'cartularykeep.PackTurned', WHERE WHAT IT READS IS OF BULK AT MOST 1048576: true; the input reads as it did. -/
def packTurnedUptoRow : OpenClaim := { program := "ytalkheljejkpiaadoor", sum := "893629c5a42768481ba4754c3bdc1eb9cd4ee96c30195b9b92e8ed77d0872c19", func := "cartulary/cartularykeep.PackTurned", spec := "packTurned", unfollowed := true, recurses := true, named := ["cartulary/sum.table"], apart := false, laid := [("cartulary/sum.table", laid_cartulary_sum_table)], narrowed := true }
def PackTurnedUptoSaid : Prop := packTurnedUptoRow.holds Tryd.pinned (OpenSpec.upto packTurnedSpec)

/-- 'cartularykeep.PackThin', WHERE WHAT IT READS IS OF BULK AT MOST 1048576: true; the input reads as it did. -/
def packThinUptoRow : OpenClaim := { program := "ytalkheljejkpiaadoor", sum := "893629c5a42768481ba4754c3bdc1eb9cd4ee96c30195b9b92e8ed77d0872c19", func := "cartulary/cartularykeep.PackThin", spec := "packThin", unfollowed := true, recurses := true, named := ["cartulary/sum.table"], apart := false, laid := [("cartulary/sum.table", laid_cartulary_sum_table)], narrowed := true }
def PackThinUptoSaid : Prop := packThinUptoRow.holds Tryd.pinned (OpenSpec.upto packThinSpec)

/-- 'cartularykeep.StoreBack', WHERE WHAT IT READS IS OF BULK AT MOST 1048576: true; the input reads as it did. -/
def storeBackUptoRow : OpenClaim := { program := "ytalkheljejkpiaadoor", sum := "893629c5a42768481ba4754c3bdc1eb9cd4ee96c30195b9b92e8ed77d0872c19", func := "cartulary/cartularykeep.StoreBack", spec := "storeBack", inPlace := ["internal/bytealg.abigen_runtime_cmpstring", "slices.overlaps[cartulary/api.File]"], unfollowed := true, recurses := true, named := ["cartulary/sum.table"], apart := false, laid := [("cartulary/sum.table", laid_cartulary_sum_table)], narrowed := true }
def StoreBackUptoSaid : Prop := storeBackUptoRow.holds Tryd.pinned (OpenSpec.upto storeBackSpec)

/-- 'cartularykeep.StoreOnward', WHERE WHAT IT READS IS OF BULK AT MOST 1048576: true; the input reads as it did. -/
def storeOnwardUptoRow : OpenClaim := { program := "ytalkheljejkpiaadoor", sum := "893629c5a42768481ba4754c3bdc1eb9cd4ee96c30195b9b92e8ed77d0872c19", func := "cartulary/cartularykeep.StoreOnward", spec := "storeOnward", inPlace := ["internal/bytealg.abigen_runtime_cmpstring", "slices.overlaps[cartulary/api.File]"], unfollowed := true, recurses := true, named := ["cartulary/sum.table"], apart := false, laid := [("cartulary/sum.table", laid_cartulary_sum_table)], narrowed := true }
def StoreOnwardUptoSaid : Prop := storeOnwardUptoRow.holds Tryd.pinned (OpenSpec.upto storeOnwardSpec)

/-- 'cartularykeep.StoreClosed', WHERE WHAT IT READS IS OF BULK AT MOST 1048576: true; the input reads as it did. -/
def storeClosedUptoRow : OpenClaim := { program := "ytalkheljejkpiaadoor", sum := "893629c5a42768481ba4754c3bdc1eb9cd4ee96c30195b9b92e8ed77d0872c19", func := "cartulary/cartularykeep.StoreClosed", spec := "storeClosed", inPlace := ["internal/bytealg.abigen_runtime_cmpstring", "slices.overlaps[cartulary/api.File]"], unfollowed := true, recurses := true, named := ["cartulary/sum.table"], apart := false, laid := [("cartulary/sum.table", laid_cartulary_sum_table)], narrowed := true }
def StoreClosedUptoSaid : Prop := storeClosedUptoRow.holds Tryd.pinned (OpenSpec.upto storeClosedSpec)

/-- 'cartularykeep.StoreSwept', WHERE WHAT IT READS IS OF BULK AT MOST 1048576: true; the input reads as it did. -/
def storeSweptUptoRow : OpenClaim := { program := "ytalkheljejkpiaadoor", sum := "893629c5a42768481ba4754c3bdc1eb9cd4ee96c30195b9b92e8ed77d0872c19", func := "cartulary/cartularykeep.StoreSwept", spec := "storeSwept", inPlace := ["internal/bytealg.abigen_runtime_cmpstring", "slices.overlaps[cartulary/api.File]"], unfollowed := true, recurses := true, named := ["cartulary/sum.table"], apart := false, laid := [("cartulary/sum.table", laid_cartulary_sum_table)], narrowed := true }
def StoreSweptUptoSaid : Prop := storeSweptUptoRow.holds Tryd.pinned (OpenSpec.upto storeSweptSpec)

end Rows
end Go.Proofs.YtalkheljejkpiaaDoor
