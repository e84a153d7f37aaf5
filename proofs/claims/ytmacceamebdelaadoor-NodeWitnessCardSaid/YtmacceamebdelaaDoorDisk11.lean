/- The keep package's sameDisk and disks. -/
import Derived.Test.YtmacceamebdelaaDoorDkB
namespace Go.Proofs.YtmacceamebdelaaDoor
open Go.RowKit
set_option linter.unusedVariables false
set_option linter.unusedSimpArgs false

def nmA : ByteArray := ⟨#[97]⟩
def nmB : ByteArray := ⟨#[98]⟩
def nmC : ByteArray := ⟨#[97, 46, 98, 45, 99]⟩
theorem named_a : namedD ⟨#[97]⟩ = true := by decide +kernel
theorem named_c : namedD ⟨#[97, 46, 98, 45, 99]⟩ = true := by decide +kernel
theorem goodD_nil : GoodL namedD [] := by
  refine ⟨Nat.zero_le _, List.Pairwise.nil, ?_, ?_⟩ <;> intro f h <;> cases h
theorem write_a : writeD namedD ⟨[], -1⟩ ⟨#[97]⟩ ⟨#[98]⟩ = (⟨[⟨⟨#[97]⟩, nilB, ⟨#[98]⟩⟩], -1⟩, 0) := by
  unfold writeD
  rw [step_4 goodD_nil (by decide) (by rw [writeO_4 named_a rfl (by simp) (by decide)]), writeO_4 named_a rfl (by simp) (by decide)]
  rfl
end Go.Proofs.YtmacceamebdelaaDoor
