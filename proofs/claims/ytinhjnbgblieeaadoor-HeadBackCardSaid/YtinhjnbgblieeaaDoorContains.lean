/- strings.ContainsFunc, by the library's contract laid over this program. -/
import Derived.Test.YtinhjnbgblieeaaDoorChecked
import Derived.WalkKit
import Derived.Lib.Hide
import Derived.Shelf.GgClosure.StringsIndexFuncTop
namespace Go.Proofs.YtinhjnbgblieeaaDoor
open Go.RowKit Go.Shelf Go.Lib
set_option linter.unusedVariables false

def cfRen : Go.Shelf.Ren := ⟨fun | 15 => 70 | 17 => 52 | 20 => 81 | n => n, fun | 0 => 0 | 3 => 3 | 4 => 4 | 9 => 9 | 21 => 21 | 23 => 98 | n => n, fun n => n⟩
theorem cfLay : LaysGw.n17 Tryd.prog cfRen := {
  mixed := by kernel_rfl
  f15 := Tryd.func70.trans (congrArg some (by kernel_rfl))
  f17 := Tryd.func52.trans (congrArg some (by kernel_rfl))
  f20 := Tryd.func81.trans (congrArg some (by kernel_rfl))
  t0 := Tryd.underlying0
  a0 := Tryd.isAgg0
  z0 := Tryd.sizeOf0
  v0 := Tryd.zeroValue0
  i0 := by kernel_rfl
  t3 := Tryd.underlying3
  a3 := Tryd.isAgg3
  z3 := Tryd.sizeOf3
  v3 := Tryd.zeroValue3
  i3 := by kernel_rfl
  t4 := Tryd.underlying4
  a4 := Tryd.isAgg4
  z4 := Tryd.sizeOf4
  v4 := Tryd.zeroValue4
  i4 := by kernel_rfl
  t9 := Tryd.underlying9
  a9 := Tryd.isAgg9
  z9 := Tryd.sizeOf9
  v9 := Tryd.zeroValue9
  i9 := by kernel_rfl
  t21 := Tryd.underlying21
  a21 := Tryd.isAgg21
  z21 := Tryd.sizeOf21
  v21 := Tryd.zeroValue21
  i21 := by kernel_rfl
  t23 := Tryd.underlying98
  a23 := Tryd.isAgg98
  z23 := Tryd.sizeOf98
  v23 := Tryd.zeroValue98
  i23 := by kernel_rfl }

/-- Is there a rune of which p holds? -/
def hasP (p : Nat → Bool) (s : ByteArray) : Bool := decide (0 ≤ Lib.idxFunc p true s)
theorem contains_any (g : Nat) (eg : ∀ args w, (callFunc g args).run Tryd.prog w = .ok (.enter g args) w) (p : Nat → Bool) (s : ByteArray) (w : World) (hp : PredAt Tryd.prog g #[] encR p w) :
    Calls Tryd.prog 52 #[.string s, .func (.func g) #[] #[]] w fun e w' => e = .returned (.bool (hasP p s)) ∧ Below w.heap.size w w' :=
  Any.strings_ContainsFunc cfLay g #[] eg p s w hp
end Go.Proofs.YtinhjnbgblieeaaDoor
