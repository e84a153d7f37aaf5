/- The walk of NodeWitness: what it needs. -/
import Derived.Test.YtmacceamebdelaaDoorNode3
import Derived.Test.YtmacceamebdelaaDoorOpenAsk
import Derived.Test.YtmacceamebdelaaDoorRegion3
import Derived.Test.YtmacceamebdelaaDoorPick
import Derived.Test.YtmacceamebdelaaDoorStoreLaw2
namespace Go.Proofs.YtmacceamebdelaaDoor
open Go.RowKit
set_option linter.unusedVariables false
set_option linter.unusedSimpArgs false

/-- A witness in a block of its own, its disk in memory from B on. -/
structure WitAt (w : World) (B g : Nat) (x : Wit) (a : Option Addr) (c : Nat) (who : Int) (key : ByteArray) : Prop where
  blk : w.heap[g]? = some (.cells #[.int .i64 x.who, .string x.key, .slice a x.disk.files.length c, .int .i64 x.disk.fuse, .int .i64 x.seen.1, .string x.seen.2] 30 (0, 0))
  own : w.ownsRow B 92 3 (.slice a x.disk.files.length c) x.disk.files.length (fvs x.disk.files)
  ok : WitOk x
  who : x.who = who
  key : x.key = key
  fuse : -9223372036854775808 ≤ x.disk.fuse ∧ x.disk.fuse ≤ 9223372036854775807
theorem WitAt.below {w w' : World} {B g : Nat} {x : Wit} {a : Option Addr} {c : Nat} {who : Int} {key : ByteArray} (h : WitAt w B g x a c who key) (hb : Below w.heap.size w w') : WitAt w' B g x a c who key :=
  ⟨blk_below h.blk hb, owns_below h.own hb, h.ok, h.who, h.key, h.fuse⟩
theorem WitOk.size {x : Wit} (h : WitOk x) : x.seen.2.size = 32 := by
  rcases h.kept with ⟨_, h⟩ | ⟨_, _, _, _, h⟩
  · rw [h]; exact root32 _
  · exact (goodH_ok h).2.2
theorem wit_new (who : Int) (key : ByteArray) : WitOk ⟨who, key, ⟨[], -1⟩, emptyH⟩ :=
  ⟨⟨Nat.zero_le _, List.Pairwise.nil, fun f h => (by cases h), fun f h => (by cases h)⟩, .inl ⟨rfl, rfl⟩⟩
theorem mark_fz (x : Wit) (h : Hed) (ps : List ByteArray) : Fz x.disk.fuse (markW x h ps).1.disk.fuse := by
  unfold markW
  split
  · exact Fz.refl _
  · split
    · exact Fz.refl _
    · split
      · exact Fz.refl _
      · split <;> exact save_fz _ _ _
set_option maxRecDepth 100000 in
set_option maxHeartbeats 3200000 in
theorem newCli_any (w : World) (ht : Tab w) : Calls Tryd.prog 12 #[] w fun e w' => e = .returned (.agg #[.slice none 0 0, .int .i64 (-1), .int .i64 0, .string (rootF []), .slice none 0 0, .slice none 0 0]) ∧ Below w.heap.size w w' := by
  obtain ⟨W, hW⟩ : ∃ W, w.alloc (.cells #[.slice none 0 0, .int .i64 0, .int .i64 0, .string ⟨#[]⟩, .slice none 0 0, .slice none 0 0] 51) = W := ⟨_, rfl⟩
  have hb1 : Below w.heap.size w W := by rw [← hW]; exact (Below.refl _ _).alloc (Nat.le_refl _) _
  have g0 : W.heap[w.heap.size]? = some (.cells #[.slice none 0 0, .int .i64 0, .int .i64 0, .string ⟨#[]⟩, .slice none 0 0, .slice none 0 0] 51 (0, 0)) := by rw [← hW]; exact heap_alloc_new _ _
  have HG0 := Lib.hid (fun wr (h : Below W.heap.size W wr) => blk_below g0 h)
  have HW0 := Lib.hid hb1
  have HB0 := Lib.hid (Below.refl W.heap.size W)
  have hem := emptyHd_any W (ht.below hb1)
  obtain ⟨r, hr⟩ : ∃ r, r = rootF [] := ⟨_, rfl⟩
  rw [← hr] at hem ⊢
  clear ht g0 hb1 hr
  go_enter Tryd.func12, Tryd.ntmps12
  go_wp2_with fail
  (with_reducible refine (hem).mono ?_)
  rintro e w1 ⟨rfl, hb⟩
  have HB1 := Lib.hid (HB0.out.trans (hb.mono HB0.out.size))
  clear hb hem
  go_wp2_with (refine wpList_store_blk (by rfl) 51 (.tmp 0) (.tmp 3) rfl (w.heap.size) #[.slice none 0 0, .int .i64 (-1), .int .i64 0, .string r, .slice none 0 0, .slice none 0 0] rfl rfl (old := _) (HG0.out _ HB1.out) (by kernel_rfl) rfl (by simp [Value.oneCell']) ?_; intro wz gz uz)
  obtain ⟨r0, r1, r2, r3, r4, r5⟩ := six_cells (gz)
  refine bodyPost_ret (v := .agg #[.slice none 0 0, .int .i64 (-1), .int .i64 0, .string r, .slice none 0 0, .slice none 0 0]) ?_ rfl ⟨rfl, below_upd (HW0.out.trans (HB1.out.mono HW0.out.size)) uz (by omega) (HW0.out.trans (HB1.out.mono HW0.out.size)).size⟩
  simp [results, Tryd.f12, go_sem, r0, r1, r2, r3, r4, r5]
set_option maxRecDepth 100000 in
set_option maxHeartbeats 3200000 in
theorem nodes_any (w : World) (ht : Tab w) : Calls Tryd.prog 6 #[] w fun e w' => e = .returned (.bool true) ∧ Below w.heap.size w w' := by
  have HB0 := Lib.hid (Below.refl w.heap.size w)
  have hn := newWit_any 1 ⟨#[107]⟩ w (by decide) (by decide) ht
  have hc := fun wr (h : Below w.heap.size w wr) => newCli_any wr (ht.below h)
  obtain ⟨r, hr⟩ : ∃ r, r = rootF [] := ⟨_, rfl⟩
  rw [← hr] at hn hc
  have HC := Lib.hid hc
  clear ht hr hc
  go_enter Tryd.func6, Tryd.ntmps6
  go_wp2_with fail
  (with_reducible refine (hn).mono ?_)
  rintro e w1 ⟨rfl, hb⟩
  have HB1 := Lib.hid (HB0.out.trans (hb.mono HB0.out.size))
  clear hb hn
  go_wp2_with (first | (refine wpList_store_blk (by rfl) 30 (.tmp 1) (.tmp 5) rfl w1.heap.size #[.int .i64 1, .string ⟨#[107]⟩, .slice none 0 0, .int .i64 (-1), .int .i64 0, .string r] rfl rfl (old := _) (heap_alloc_new _ _) (by kernel_rfl) rfl (by simp [Value.oneCell']) ?_; intro w2 gz uz; have hbz := below_upd ((Below.refl w1.heap.size w1).alloc (Nat.le_refl _) _) uz (Nat.le_refl _) (by simp); have HB2 := Lib.hid (HB1.out.trans (hbz.mono HB1.out.size)); obtain ⟨c0, c1, c2, c3, c4, c5⟩ := six_cells (gz); clear gz uz hbz))
  (with_reducible refine (HC.out _ HB2.out).mono ?_)
  rintro e w3 ⟨rfl, hb⟩
  have HB3 := Lib.hid (HB2.out.trans (hb.mono HB2.out.size))
  clear hb HC
  have hfd := fun w : World => (show (Instr.field 51 (.agg #[.slice none 0 0, .int .i64 (-1), .int .i64 0, .string r, .slice none 0 0, .slice none 0 0]) 0).run Tryd.prog w = .ok (.agg #[.slice none 0 0, .int .i64 (-1)]) w from (run_field_agg (i := 0) (off := 0) (n := 2) w Tryd.underlying51 rfl Tryd.underlying26 rfl (by kernel_rfl)).trans rfl)
  have hfe := fun w : World => (show (Instr.field 26 (.agg #[.slice none 0 0, .int .i64 (-1)]) 1).run Tryd.prog w = .ok (.int .i64 (-1)) w from run_field_one (i := 1) (off := 1) w Tryd.underlying26 rfl Tryd.underlying3 rfl rfl)
  go_wp2_with fail
  go_ret
  exact ⟨rfl, HB3.out⟩
end Go.Proofs.YtmacceamebdelaaDoor
