/- The keep package's sameDisk and disks. -/
import Derived.Test.YtalkheljejkpiaaDoorDkB
namespace Go.Proofs.YtalkheljejkpiaaDoor
open Go.RowKit
set_option linter.unusedVariables false
set_option linter.unusedSimpArgs false

set_option maxRecDepth 100000 in
set_option maxHeartbeats 3200000 in
theorem sameDisk_any (l : List Fil) (f : Int) (v u : Value) (w : World) (hr : rdF w v l) (hq : rdF w u l) :
    Calls Tryd.prog 22 #[.agg #[v, .int .i64 f], .agg #[u, .int .i64 f]] w fun e w' => e = .returned (.bool true) ∧ Below w.heap.size w w' := by
  obtain ⟨a0, p0, rfl⟩ := rd_form hr
  obtain ⟨a1, p1, rfl⟩ := rd_form hq
  have hlen := rdF_len hr
  obtain ⟨W, hW⟩ : ∃ W, (w.alloc (.cells #[.slice a0 l.length p0, .int .i64 f] 38)).alloc (.cells #[.slice a1 l.length p1, .int .i64 f] 38) = W := ⟨_, rfl⟩
  have hbW : Below w.heap.size w W := by rw [← hW]; exact ((Below.refl _ _).alloc (Nat.le_refl _) _).alloc (by simp) _
  have g0 : W.heap[w.heap.size]? = some (.cells #[.slice a0 l.length p0, .int .i64 f] 38 (0, 0)) := by rw [← hW]; exact heap_old (heap_alloc_new _ _)
  have g1 : W.heap[w.heap.size + 1]? = some (.cells #[.slice a1 l.length p1, .int .i64 f] 38 (0, 0)) := by rw [← hW]; exact heap_new (by simp)
  have HBW := Lib.hid hbW
  have HG0 := Lib.hid (fun w' (h : Below W.heap.size W w') => blk_below g0 h)
  have HG1 := Lib.hid (fun w' (h : Below W.heap.size W w') => blk_below g1 h)
  have HR := Lib.hid (hr.below hbW)
  have HQ := Lib.hid (hq.below hbW)
  obtain ⟨c0, c1, z0, z1⟩ := cell_of_two g0
  obtain ⟨d0, d1, y0, y1⟩ := cell_of_two g1
  have hb0 := Lib.hid (Below.refl W.heap.size W)
  clear hr hq hbW g0 g1
  go_enter Tryd.func22, Tryd.ntmps22
  go_wp2_with fail
  clear c0 c1 z0 z1 d0 d1 y0 y1 hW
  go_loopw [5] (fun s5 wr => ∃ k : Nat, k ≤ l.length ∧ s5 = .int .i64 (k : Int) ∧ Hid (Below W.heap.size W wr)) (fun s5 _ => l.length - (intOf s5).toNat)
  case atStart => exact ⟨0, Nat.zero_le _, rfl, hb0⟩
  case round =>
    clear hb0
    obtain ⟨k, hk, rfl, HB⟩ := hrel
    obtain ⟨c0, c1, z0, z1⟩ := cell_of_two (HG0.out _ HB.out)
    obtain ⟨d0, d1, y0, y1⟩ := cell_of_two (HG1.out _ HB.out)
    by_cases hlt : k < l.length
    · have hki : (k : Int) < (l.length : Int) := by omega
      have hkb : decide ((k : Int) < (l.length : Int)) = true := decide_eq_true hki
      obtain ⟨b, off, hae, hblt, hcell⟩ := rdF_at HR.out (by omega)
      obtain ⟨b2, off2, hae2, hblt2, hcell2⟩ := rdF_at HQ.out (by omega)
      subst hae
      subst hae2
      obtain ⟨x, hx⟩ : ∃ x, x = l.getD k zeroFil := ⟨_, rfl⟩
      have s := hcell k hlt
      have t := hcell2 k hlt
      rw [← hx] at s t
      have s0 := (HB.out.cell (p := ⟨b, off + k * 3, none⟩) hblt).trans s.1
      have s1 := (HB.out.cell (p := ⟨b, off + k * 3 + 1, none⟩) hblt).trans s.2.1
      have s2 := (HB.out.cell (p := ⟨b, off + k * 3 + 2, none⟩) hblt).trans s.2.2
      have t0 := (HB.out.cell (p := ⟨b2, off2 + k * 3, none⟩) hblt2).trans t.1
      have t1 := (HB.out.cell (p := ⟨b2, off2 + k * 3 + 1, none⟩) hblt2).trans t.2.1
      have t2 := (HB.out.cell (p := ⟨b2, off2 + k * 3 + 2, none⟩) hblt2).trans t.2.2
      clear s t hx hcell hcell2
      go_wp2_with fail
      go_region
      go_wp2_with fail
      go_roundw
      case rel => exact ⟨k + 1, by omega, by first | rfl | go_num, Lib.hid HB.out.drew⟩
      case measure => simp [intOf]; omega
    · obtain rfl : k = l.length := by omega
      have hkb : decide ((l.length : Int) < (l.length : Int)) = false := by simp
      go_wp2_with fail
      go_ret
      exact ⟨rfl, HBW.out.trans (HB.out.mono HBW.out.size)⟩
def nmA : ByteArray := ⟨#[97]⟩
def nmB : ByteArray := ⟨#[98]⟩
def nmC : ByteArray := ⟨#[97, 46, 98, 45, 99]⟩
theorem named_a : namedD ⟨#[97]⟩ = true := by decide +kernel
theorem named_c : namedD ⟨#[97, 46, 98, 45, 99]⟩ = true := by decide +kernel
theorem goodD_nil : GoodL namedD [] := by
  refine ⟨Nat.zero_le _, List.Pairwise.nil, ?_, ?_⟩ <;> intro f h <;> cases h
theorem write_a : writeD namedD ⟨[], -1⟩ ⟨#[97]⟩ ⟨#[98]⟩ = (⟨[⟨⟨#[97]⟩, nilB, ⟨#[98]⟩⟩], -1⟩, 0) := by
  unfold writeD
  rw [step_4 goodD_nil (by decide) (by rw [writeO_4 named_a rfl (by simp) (by decide)]), writeO_4 named_a rfl (by simp) (by decide)]
  rfl
end Go.Proofs.YtalkheljejkpiaaDoor
