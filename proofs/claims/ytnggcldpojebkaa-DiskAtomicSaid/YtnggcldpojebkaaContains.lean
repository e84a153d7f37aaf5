/- strings.ContainsFunc, by the library's contract laid over this program. -/
import Derived.Test.YtnggcldpojebkaaChecked
import Derived.WalkKit
import Derived.Lib.Hide
import Derived.Shelf.GgClosure.StringsIndexFuncTop
namespace Go.Proofs.Ytnggcldpojebkaa
open Go.RowKit Go.Shelf Go.Lib
set_option linter.unusedVariables false

def cfRen : Go.Shelf.Ren := ⟨fun | 15 => 53 | 17 => 46 | 20 => 56 | n => n, fun | 0 => 0 | 3 => 3 | 4 => 4 | 9 => 9 | 21 => 21 | 23 => 75 | n => n, fun n => n⟩
theorem cfLay : LaysGw.n17 Try.prog cfRen := {
  mixed := by kernel_rfl
  f15 := Try.func53.trans (congrArg some (by kernel_rfl))
  f17 := Try.func46.trans (congrArg some (by kernel_rfl))
  f20 := Try.func56.trans (congrArg some (by kernel_rfl))
  t0 := Try.underlying0
  a0 := Try.isAgg0
  z0 := Try.sizeOf0
  v0 := Try.zeroValue0
  i0 := by kernel_rfl
  t3 := Try.underlying3
  a3 := Try.isAgg3
  z3 := Try.sizeOf3
  v3 := Try.zeroValue3
  i3 := by kernel_rfl
  t4 := Try.underlying4
  a4 := Try.isAgg4
  z4 := Try.sizeOf4
  v4 := Try.zeroValue4
  i4 := by kernel_rfl
  t9 := Try.underlying9
  a9 := Try.isAgg9
  z9 := Try.sizeOf9
  v9 := Try.zeroValue9
  i9 := by kernel_rfl
  t21 := Try.underlying21
  a21 := Try.isAgg21
  z21 := Try.sizeOf21
  v21 := Try.zeroValue21
  i21 := by kernel_rfl
  t23 := Try.underlying75
  a23 := Try.isAgg75
  z23 := Try.sizeOf75
  v23 := Try.zeroValue75
  i23 := by kernel_rfl }

/-- Is there a rune of which p holds? -/
def hasP (p : Nat → Bool) (s : ByteArray) : Bool := decide (0 ≤ Lib.idxFunc p true s)
theorem contains_any (g : Nat) (eg : ∀ args w, (callFunc g args).run Try.prog w = .ok (.enter g args) w) (p : Nat → Bool) (s : ByteArray) (w : World) (hp : PredAt Try.prog g #[] encR p w) :
    Calls Try.prog 46 #[.string s, .func (.func g) #[] #[]] w fun e w' => e = .returned (.bool (hasP p s)) ∧ Below w.heap.size w w' :=
  Any.strings_ContainsFunc cfLay g #[] eg p s w hp
end Go.Proofs.Ytnggcldpojebkaa
