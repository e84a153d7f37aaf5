/- A head that comes in, opened. -/
import Derived.Test.YtinhjnbgblieeaaDoorChecked
import Derived.Test.YtinhjnbgblieeaaDoorOpen
import Derived.ProofKit
import Derived.OpenShut
import Derived.Deep.Slices
namespace Go.Proofs.YtinhjnbgblieeaaDoor
open Go.ChangeShapes Go.WideShapes Go.ChangeAt Go.RowKit
set_option linter.unusedVariables false
set_option linter.unusedSimpArgs false

set_option maxRecDepth 100000 in
theorem open_head {H : Type} {enc : TypeId × Value → H} {W : World} {b0 : Nat} {sp : Nat → Bool} {held : Bool} {v : Value} {d : DataW H} {p : List MemPlace}
    (hv : Value.okWide Tryd.prog W .any b0 41 v) (h : DataW.Trod enc Tryd.prog W 0 sp held 41 v d p) : ∃ (n : Int) (r : ByteArray), v = .agg #[.int .i64 n, .string r] := by
  obtain ⟨cs, rfl, hsz⟩ := okWide_struct Tryd.underlying41 hv
  have hc : Tryd.prog.cellsOf 41 = 2 := by kernel_rfl
  have hci : Tryd.prog.cellsOf 3 = 1 := by kernel_rfl
  have hcs : Tryd.prog.cellsOf 9 = 1 := by kernel_rfl
  obtain ⟨l⟩ := cs
  match l, hsz.trans hc with
  | [c0, c1], _ =>
    obtain ⟨fuel, hf⟩ := h
    obtain ⟨xs, n, _, hx, _, hlen, hg⟩ := DataW.trod_struct Tryd.underlying41 hf
    match xs, hlen with
    | [y0, y1], _ =>
      have h0 : DataW.trod enc Tryd.prog W 0 sp held n 3 (([c0, c1].drop 0).take (Tryd.prog.cellsOf 3)) = some y0 := hg 0 _ rfl
      have h1 : DataW.trod enc Tryd.prog W 0 sp held n 9 (([c0, c1].drop 1).take (Tryd.prog.cellsOf 9)) = some y1 := hg 1 _ rfl
      rw [hci] at h0
      rw [hcs] at h1
      obtain ⟨k, e0, _⟩ := DataW.trod_int Tryd.underlying3 h0
      obtain ⟨s, e1, _⟩ := DataW.trod_string Tryd.underlying9 h1
      have e0' : c0 = .int .i64 k := by simpa using e0
      have e1' : c1 = .string s := by simpa using e1
      subst e0' e1'
      exact ⟨k, s, rfl⟩
end Go.Proofs.YtinhjnbgblieeaaDoor
