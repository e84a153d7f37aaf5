/- The walk of sum.Hex. -/
import Derived.Test.YtinhjnbgblieeaaDoorSumSum
namespace Go.Proofs.YtinhjnbgblieeaaDoor
open Go.RowKit
set_option linter.unusedVariables false
set_option linter.unusedSimpArgs false

def ds : ByteArray := ⟨#[48, 49, 50, 51, 52, 53, 54, 55, 56, 57, 97, 98, 99, 100, 101, 102]⟩
def dg (n : Nat) : UInt8 := ds.data.toList.getD n 0
theorem run_dig (w : World) (n : Nat) (h : n < 16) : (Instr.index 9 (.string ⟨#[48, 49, 50, 51, 52, 53, 54, 55, 56, 57, 97, 98, 99, 100, 101, 102]⟩) (.int .u8 (n : Int))).run Tryd.prog w = .ok (.int .u8 ((dg n).toNat : Int)) w := by
  have hn : (n : Int) < 16 := by omega
  have h0 : (0 : Int) ≤ (n : Int) := by omega
  have hd : (ds[n]'h).toNat = (dg n).toNat := by
    have : dg n = ds[n]'h := by
      show ds.data.toList.getD n 0 = _
      rw [List.getD, List.getElem?_eq_getElem (by exact h)]; rfl
    rw [this]
  have e : (⟨#[48, 49, 50, 51, 52, 53, 54, 55, 56, 57, 97, 98, 99, 100, 101, 102]⟩ : ByteArray) = ds := rfl
  have hsz : ds.size = 16 := rfl
  have hl : (n : Int) < (ds.size : Int) := by rw [hsz]; omega
  have hln : n < ds.size := h
  rw [e]
  simp [Instr.index, run_underlying Tryd.underlying9, asIntOf, hl, hln, h0, go_sem]
  exact congrArg (fun x : Nat => (x : Int)) hd
/-- The digits of bytes. -/
def hexL (l : List UInt8) : List UInt8 := l.flatMap fun c => [dg (c.toNat / 16), dg (c.toNat % 16)]

def hexF (b : ByteArray) : ByteArray := ⟨(hexL b.data.toList).toArray⟩
theorem hexL_step (l : List UInt8) (k : Nat) (h : k < l.length) : hexL (l.take (k + 1)) = hexL (l.take k) ++ [dg ((l.getD k 0).toNat / 16), dg ((l.getD k 0).toNat % 16)] := by
  rw [List.take_add_one, List.getElem?_eq_getElem h, List.getD, List.getElem?_eq_getElem h]
  show List.flatMap _ (l.take k ++ [l[k]]) = _
  rw [List.flatMap_append]
  rfl

end Go.Proofs.YtinhjnbgblieeaaDoor
