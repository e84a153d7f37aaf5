/- The walk of abc. -/
import Derived.Test.YtafgbmeibnhapaaDoorSumHex
import Derived.Test.YtafgbmeibnhapaaDoorSumAbc
namespace Go.Proofs.YtafgbmeibnhapaaDoor
open Go.RowKit
set_option linter.unusedVariables false
set_option linter.unusedSimpArgs false

set_option maxRecDepth 100000 in
set_option maxHeartbeats 1600000 in
theorem abc_any (w : World) (ht : Tab w) :
    Calls Tryd.prog 12 #[] w fun e w' => e = .returned (.bool true) ∧ Below w.heap.size w w' := by
  have HT := Lib.hid ht
  clear ht
  go_enter Tryd.func12, Tryd.ntmps12
  go_wp2_with fail
  refine (sum_any _ _ HT.out).mono ?_
  rintro e w1 ⟨rfl, hb1⟩
  have hsz : (sumF ⟨#[97, 98, 99]⟩).size = 32 := endF_size _
  have h4 : (4 : Int) ≤ ((sumF ⟨#[97, 98, 99]⟩).size : Int) := by rw [hsz]; decide
  go_wp2_with fail
  have hq : (sumF ⟨#[97, 98, 99]⟩).extract 0 4 = ⟨#[0xba, 0x78, 0x16, 0xbf]⟩ := bs_ext abc4
  rw [hq]
  refine (hex_any _ _ (by decide)).mono ?_
  rintro e w2 ⟨rfl, hb2⟩
  have hx : hexF ⟨#[0xba, 0x78, 0x16, 0xbf]⟩ = ⟨#[98, 97, 55, 56, 49, 54, 98, 102]⟩ := by apply bs_ext; kernel_rfl
  rw [hx]
  go_wp2_with fail
  go_ret
  exact ⟨rfl, hb1.trans (hb2.mono hb1.size)⟩
end Go.Proofs.YtafgbmeibnhapaaDoor
