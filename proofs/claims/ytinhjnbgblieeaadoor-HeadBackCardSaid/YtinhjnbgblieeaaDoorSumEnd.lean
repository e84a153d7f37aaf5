/- The walk of sum.End. -/
import Derived.Test.YtinhjnbgblieeaaDoorSumAdd
import Derived.Test.YtinhjnbgblieeaaDoorMark
namespace Go.Proofs.YtinhjnbgblieeaaDoor
open Go.RowKit
set_option linter.unusedVariables false
set_option linter.unusedSimpArgs false

/-- How many noughts make 56 of 64. -/
def padN (n : Nat) : Nat := (119 - n) % 64
def sliceLen : Value → Nat
  | .slice _ n _ => n
  | _ => 0
theorem info_u8 : infoIs Tryd.prog 5 (.int .u8 0) 1 1 := by unfold infoIs; kernel_rfl
theorem ownsM_len {w : World} {base : Nat} {e : TypeId} {v : Value} {xs : List Value} (h : ownsM w base e v xs) : sliceLen v = xs.length := by
  obtain ⟨_, _, _, _, _, rfl, _⟩ := h; rfl
theorem ownsM_form {w : World} {base : Nat} {e : TypeId} {v : Value} {xs : List Value} (h : ownsM w base e v xs) : ∃ g cap, v = .slice (some ⟨g, 0, none⟩) xs.length cap := by
  obtain ⟨g, cap, _, _, _, rfl, _⟩ := h; exact ⟨g, cap, rfl⟩

/-- The length in bits, eight bytes, the high one first. -/
def lenB (x : Nat) (m : Nat) : List UInt8 := (List.range m).map fun t => UInt8.ofNat (x / 2 ^ (56 - 8 * t))
theorem lenB_succ (x m : Nat) : lenB x (m + 1) = lenB x m ++ [UInt8.ofNat (x / 2 ^ (56 - 8 * m))] := by simp [lenB, List.range_succ]
theorem lenB_val (y : Int) (k j : Nat) (hy : 0 ≤ y) (hk : k = j) (hj : j ≤ 64) : 8 * y / 2 ^ min k 64 % 256 = ((UInt8.ofNat (8 * y.toNat / 2 ^ j)).toNat : Int) := by
  subst hk
  obtain ⟨n, rfl⟩ := Int.eq_ofNat_of_zero_le hy
  rw [Nat.min_eq_left hj]
  rw [Int.toNat_natCast, UInt8.toNat_ofNat']
  rw [Int.natCast_emod, Int.natCast_ediv, Int.natCast_mul, Int.natCast_pow]
  rfl
def pads (b : ByteArray) : List UInt8 := b.data.toList ++ [128] ++ List.replicate (padN b.size) 0
def intOr : Value → Int
  | .int _ q => q
  | _ => 0

def idx (x : Hd) : Nat → Int
  | 0 => x.a | 1 => x.b | 2 => x.c | 3 => x.d | 4 => x.e | 5 => x.f | 6 => x.g | _ => x.h
def four (y : Int) : List UInt8 := [UInt8.ofNat (y.toNat / 2 ^ 24), UInt8.ofNat (y.toNat / 2 ^ 16), UInt8.ofNat (y.toNat / 2 ^ 8), UInt8.ofNat y.toNat]
/-- The heads as bytes, up to one. -/
def outB (x : Hd) : Nat → List UInt8
  | 0 => []
  | k + 1 => outB x k ++ four (idx x k)
theorem outB_length (x : Hd) : ∀ k, (outB x k).length = 4 * k
  | 0 => rfl
  | k + 1 => by rw [outB, List.length_append, outB_length x k]; rfl
theorem idx_ok {x : Hd} (h : x.ok) (k : Nat) : isU (idx x k) := by
  obtain ⟨ha, hb, hc, hd, he, hf, hg, hh⟩ := h
  rcases k with _ | _ | _ | _ | _ | _ | _ | _ | k <;> assumption
theorem byte_of (y : Int) (m : Nat) (hy : 0 ≤ y) : ((UInt8.ofNat (y.toNat / m)).toNat : Int) = y / m % 256 := by
  obtain ⟨n, rfl⟩ := Int.eq_ofNat_of_zero_le hy
  rw [Int.toNat_natCast, UInt8.toNat_ofNat', Int.natCast_emod, Int.natCast_ediv]
  rfl
theorem four_vals (y : Int) (hy : 0 ≤ y) : bvs (four y) = [.int .u8 (y / 16777216 % 256), .int .u8 (y / 65536 % 256), .int .u8 (y / 256 % 256), .int .u8 (y % 256)] := by
  have h1 := byte_of y (2 ^ 24) hy
  have h2 := byte_of y (2 ^ 16) hy
  have h3 := byte_of y (2 ^ 8) hy
  have h4 := byte_of y 1 hy
  rw [Nat.div_one] at h4
  simp only [four, bvs, List.map_cons, List.map_nil, h1, h2, h3, h4]
  congr 4
  simp
/-- What End sums up last. -/
def padded (s : St) : List UInt8 := pads s.rest ++ lenB (8 * s.many.toNat) 8
def endF (s : St) : ByteArray := ⟨(outB (blkN s.heads ⟨(padded s).toArray⟩ ((padded s).length / 64)) 8).toArray⟩
theorem idx_get (x : Hd) (k : Nat) (h : k < 8) : (#[.int .u32 x.a, .int .u32 x.b, .int .u32 x.c, .int .u32 x.d, .int .u32 x.e, .int .u32 x.f, .int .u32 x.g, .int .u32 x.h] : Array Value)[k]? = some (.int .u32 (idx x k)) := by
  rcases k with _ | _ | _ | _ | _ | _ | _ | _ | k <;> first | rfl | omega
theorem under8 : Tryd.prog.underlying 103 = some (.array 8 102) := by kernel_rfl
theorem run_idx8 (w : World) (cs : Array Value) (k : Nat) (y : Value) (hk : k < 8) (h : cs[k]? = some y) : (Instr.index 103 (.agg cs) (.int .i64 k)).run Tryd.prog w = .ok y w := by
  have hk' : (k : Int) < 8 := by omega
  have h0 : (0 : Int) ≤ (k : Int) := by omega
  have hs : sizeOf 102 = sizeOf 102 := rfl
  simp [Instr.index, run_underlying under8, asIntOf, hk', h0, hk, h, go_sem]
structure EndW (w wr : World) (s : St) (g2 : Nat) (cur : Array Value) (lo hi : Nat) : Prop where
  h0 : wr.heap[w.heap.size]? = some (.cells (stCells s).toArray 105 (0, 0))
  h1 : wr.heap[g2]? = some (.cells cur 5 (lo, hi))
  far : w.heap.size < g2
  bel : Below w.heap.size w wr
theorem EndW.below' {w wr wn : World} {s : St} {g2 : Nat} {cur : Array Value} {lo hi : Nat} (h : EndW w wr s g2 cur lo hi) (hb : Below wr.heap.size wr wn) : EndW w wn s g2 cur lo hi := by
  have l0 := lt_of_block h.h0
  have l1 := lt_of_block h.h1
  exact ⟨by rw [hb.block _ l0]; exact h.h0, by rw [hb.block _ l1]; exact h.h1, h.far, h.bel.trans (hb.mono (by omega))⟩
theorem EndW.drew {w wr : World} {s : St} {g2 : Nat} {cur : Array Value} {lo hi : Nat} (h : EndW w wr s g2 cur lo hi) : EndW w wr.drew s g2 cur lo hi := ⟨h.h0, h.h1, h.far, h.bel.drew⟩
theorem EndW.heads {w wr : World} {s : St} {g2 : Nat} {cur : Array Value} {lo hi : Nat} (h : EndW w wr s g2 cur lo hi) (x : Hd) :
    EndW w ((((((((wr.setCell ⟨w.heap.size, 0, none⟩ (.int .u32 x.a)).setCell ⟨w.heap.size, 1, none⟩ (.int .u32 x.b)).setCell ⟨w.heap.size, 2, none⟩ (.int .u32 x.c)).setCell ⟨w.heap.size, 3, none⟩ (.int .u32 x.d)).setCell ⟨w.heap.size, 4, none⟩ (.int .u32 x.e)).setCell ⟨w.heap.size, 5, none⟩ (.int .u32 x.f)).setCell ⟨w.heap.size, 6, none⟩ (.int .u32 x.g)).setCell ⟨w.heap.size, 7, none⟩ (.int .u32 x.h)) ⟨x, s.rest, s.many⟩ g2 cur lo hi := by
  have hf := h.far
  exact ⟨cells_set8 h.h0 x, by rw [Below.heap_setCell _ _ _ _ (by simp; omega), Below.heap_setCell _ _ _ _ (by simp; omega), Below.heap_setCell _ _ _ _ (by simp; omega), Below.heap_setCell _ _ _ _ (by simp; omega), Below.heap_setCell _ _ _ _ (by simp; omega), Below.heap_setCell _ _ _ _ (by simp; omega), Below.heap_setCell _ _ _ _ (by simp; omega), Below.heap_setCell _ _ _ _ (by simp; omega)]; exact h.h1, h.far,
    (((((((h.bel.setCell (Nat.le_refl _) _).setCell (Nat.le_refl _) _).setCell (Nat.le_refl _) _).setCell (Nat.le_refl _) _).setCell (Nat.le_refl _) _).setCell (Nat.le_refl _) _).setCell (Nat.le_refl _) _).setCell (Nat.le_refl _) _⟩

set_option maxRecDepth 100000 in
/-- A piece of a row of bytes as a text. -/
theorem piece_string {w : World} {g n t c : Nat} {cur : Array Value} {lo hi : Nat} {full : List UInt8} (h : w.heap[g]? = some (.cells cur 5 (lo, hi))) (ht : cur.toList.take n = bvs full) (hn : 64 * t + 64 ≤ full.length) :
    (convert 74 9 (.slice (some ⟨g, 64 * t, none⟩) 64 c)).run Tryd.prog w = .ok (.string ((ByteArray.mk full.toArray).extract (64 * t) (64 * t + 64))) w := by
  have hl : ((full.drop (64 * t)).take 64).length = 64 := by simp; omega
  have hr := run_convert_bytes_back (P := Tryd.prog) w 74 9 5 ⟨g, 64 * t, none⟩ c ((full.drop (64 * t)).take 64) Tryd.underlying74 Tryd.underlying5 Tryd.underlying9 (by
    intro j hj
    have hj' : j < 64 := by omega
    rw [addr_add, cell_of_row _ g _ cur 5 (lo, hi) h]
    have h1 : (bvs full)[64 * t + j]? = some (.int .u8 (full[64 * t + j].toNat : Int)) := by simp [bvs, List.getElem?_eq_getElem (show 64 * t + j < full.length by omega)]
    rw [← ht, List.getElem?_take] at h1
    split at h1
    · rw [← Array.getElem?_toList, h1]; simp
    · cases h1)
  rw [hl] at hr
  refine hr.trans ?_
  congr 2
  apply bs_ext
  rw [toList_extract]
  show _ = (full.drop (64 * t)).take (64 * t + 64 - 64 * t)
  rw [Nat.add_sub_cancel_left]

set_option maxRecDepth 100000 in
set_option maxHeartbeats 1600000 in
theorem end_any (s : St) (w : World) (hg : goodB s = true) (hok : s.heads.ok) (htab0 : ∀ i, i < 64 → w.cell? ⟨0, i, none⟩ = some (.int .u32 (shaK.getD i 0))) :
    Calls Tryd.prog 57 #[stV s] w fun e w' => e = .returned (.tuple #[.string (endF s), .int .i64 0]) ∧ Below w.heap.size w w' := by
  have HTB : Hid (0 < w.heap.size) := Lib.hid (by have := World.block_lt_of_cell? w _ (htab0 0 (by omega)); exact this)
  have htab := Lib.hid htab0
  clear htab0
  have HG := good_any s
  simp only [stV] at HG
  have hmany : 0 ≤ s.many ∧ s.many < 1152921504606846976 := by simp [goodB] at hg; exact ⟨hg.1, hg.2.1⟩
  have hrest : s.rest.size < 64 := by simp [goodB] at hg; omega
  rw [hg] at HG
  clear hg
  show Calls _ _ #[.agg #[.int .u32 s.heads.a, .int .u32 s.heads.b, .int .u32 s.heads.c, .int .u32 s.heads.d, .int .u32 s.heads.e, .int .u32 s.heads.f, .int .u32 s.heads.g, .int .u32 s.heads.h, .string s.rest, .int .i64 s.many]] w _
  go_enter Tryd.func57, Tryd.ntmps57
  go_wp2_with fail
  refine (HG _).mono ?_
  rintro e w1 ⟨rfl, hb1⟩
  have h0 : w1.heap[w.heap.size]? = some (.cells (stCells s).toArray 105 (0, 0)) := by rw [hb1.block _ (by simp)]; exact heap_alloc_new _ _
  have hbel : Below w.heap.size w w1 := ((Below.refl _ w).alloc (Nat.le_refl _) (.cells (stCells s).toArray 105)).trans (hb1.mono (by simp))
  have hw1 : w.heap.size + 1 ≤ w1.heap.size := by have := lt_of_block h0; omega
  have a8 : w1.cell? ⟨w.heap.size, 8, none⟩ = some (.string s.rest) := (block10 h0).2.2.2.2.2.2.2.2.1
  have kc := fun (w : World) (x : ByteArray) => run_bytes_of_string (P := Tryd.prog) w 9 74 5 x Tryd.underlying9 Tryd.underlying74 Tryd.underlying5
  clear hb1
  go_wp2_with fail
  have hst : ownsM (w1.drew.alloc (.cells (bytesRow (s.rest ++ ⟨#[128]⟩) (grownCap w1 (s.rest.size + 1) 0 5)) 5 ((bytesRow (s.rest ++ ⟨#[128]⟩) (grownCap w1 (s.rest.size + 1) 0 5)).size, (bytesRow (s.rest ++ ⟨#[128]⟩) (grownCap w1 (s.rest.size + 1) 0 5)).size + 1))) (w.heap.size + 1) 5 (.slice (some ⟨w1.heap.size, 0, none⟩) (s.rest.size + 1) (grownCap w1 (s.rest.size + 1) 0 5)) (bvs (s.rest.data.toList ++ [128])) := by
    have hx : (s.rest ++ (⟨#[128]⟩ : ByteArray)).size = s.rest.size + 1 := ByteArray.size_append
    have := ownsM_bytes w1 (w.heap.size + 1) 5 (s.rest ++ ⟨#[128]⟩) hw1 (by rw [hx]; unfold maxLen; omega)
    rw [hx, toList_append] at this
    exact this
  have HH0 := Lib.hid h0
  have HBL := Lib.hid hbel
  have HREST := Lib.hid hrest
  have HMANY := Lib.hid hmany
  have HOK := Lib.hid hok
  have HW1 := Lib.hid hw1
  clear h0 hbel a8 hmany hok hw1
  go_loopw [4] (fun v wr => ∃ j : Nat, j ≤ padN s.rest.size ∧ ownsM wr (w.heap.size + 1) 5 v (bvs (s.rest.data.toList ++ [128] ++ List.replicate j 0)) ∧ Below (w.heap.size + 1) w1 wr) (fun v _ => 200 - sliceLen v)
  case atStart => exact ⟨0, Nat.zero_le _, by rw [List.replicate_zero, List.append_nil]; exact hst, (Below.refl _ w1).drew.alloc (by have := HW1.out; simpa using this) _⟩
  case round =>
    clear hst
    obtain ⟨j, hj, hown, hB⟩ := hrel
    obtain ⟨n, hn⟩ : ∃ n, n = s.rest.size + 1 + j := ⟨_, rfl⟩
    have hl : (bvs (s.rest.data.toList ++ [128] ++ List.replicate j 0)).length = n := by simp [bvs, toList_length]; omega
    obtain ⟨g, cap, hv⟩ := ownsM_form hown
    rw [hl] at hv
    subst hv
    have hpad : padN s.rest.size < 64 ∧ (s.rest.size + 1 + padN s.rest.size) % 64 = 56 := by unfold padN; omega
    have hmt : Int.tmod (n : Int) 64 = (n : Int) % 64 := Int.tmod_eq_emod_of_nonneg (by omega)
    have hwsz : w.heap.size + 1 ≤ wr.heap.size := Nat.le_trans HW1.out hB.size
    by_cases hlt : j < padN s.rest.size
    · have hne : ((n : Int) % 64 == 56) = false := by simp; unfold padN at hlt hj; omega
      have HN := Lib.hid (show n = s.rest.size + 1 + j ∧ j < padN s.rest.size ∧ padN s.rest.size < 64 from ⟨hn, hlt, hpad.1⟩)
      have hn63 : n < 200 := by omega
      have HL := Lib.hid hl
      clear hn hj hlt hpad hl hrest
      go_wp2_with (first | (at_builtin; refine wpList_append1M rfl _ _ 74 rfl info_u8 Tryd.underlying74 rfl hown hB (Nat.le_refl _) hwsz rfl (by rw [HL.out]; omega) rfl rfl ?_; intro v' w2 hown' hB'))
      go_roundw
      case rel =>
        refine ⟨j + 1, by have := HN.out; omega, ?_, hB'⟩
        rw [List.replicate_succ', ← List.append_assoc, bvs_append]
        exact hown'
      case measure =>
        rw [ownsM_len hown', List.length_append, HL.out]
        simp only [sliceLen, List.length_cons, List.length_nil]
        omega
    · have hjp : j = padN s.rest.size := by omega
      have hne : ((n : Int) % 64 == 56) = true := by simp; unfold padN at hjp; omega
      have HN := Lib.hid (show n % 64 = 56 ∧ n < 121 ∧ n = s.rest.size + 1 + padN s.rest.size by omega)
      rw [hjp] at hown hl
      have HL := Lib.hid hl
      have HV := Lib.hid (rfl : Value.slice (some ⟨g, 0, none⟩) n cap = .slice (some ⟨g, 0, none⟩) n cap)
      clear hn hj hlt hpad hl hrest hjp
      clear j
      change ownsM wr (w.heap.size + 1) 5 _ (bvs (pads s.rest)) at hown
      have hown0 := hown
      go_wp2_with fail
      clear hown hwsz hmt hne
      go_loopw [4, 5] (fun v i wr => ∃ m : Nat, m ≤ 8 ∧ i = .int .i64 (56 - 8 * (m : Int)) ∧ ownsM wr (w.heap.size + 1) 5 v (bvs (pads s.rest ++ lenB (8 * s.many.toNat) m)) ∧ Below (w.heap.size + 1) w1 wr) (fun _ i _ => (intOr i + 8).toNat)
      case atStart => exact ⟨0, by omega, rfl, by rw [lenB, List.range_zero, List.map_nil, List.append_nil]; exact hown0, hB⟩
      case round =>
        clear hown0 hB HV
        obtain ⟨m, hm, rfl, hown, hB⟩ := hrel
        have HMM := HMANY.out
        have h0 : wr.heap[w.heap.size]? = some (.cells (stCells s).toArray 105 (0, 0)) := by rw [hB.block _ (by omega)]; exact HH0.out
        have a9 : wr.cell? ⟨w.heap.size, 9, none⟩ = some (.int .i64 s.many) := (block10 h0).2.2.2.2.2.2.2.2.2
        have hwsz : w.heap.size + 1 ≤ wr.heap.size := Nat.le_trans HW1.out hB.size
        obtain ⟨n2, hn2⟩ : ∃ n2, n2 = n + m := ⟨_, rfl⟩
        have hl2 : (bvs (pads s.rest ++ lenB (8 * s.many.toNat) m)).length = n2 := by
          have h1 : (bvs (pads s.rest)).length = n := HL.out
          simp only [bvs, List.map_append, List.length_append, List.length_map, lenB, List.length_range] at h1 ⊢
          omega
        obtain ⟨g2, cap2, hv⟩ := ownsM_form hown
        rw [hl2] at hv
        subst hv
        have H0 := Lib.hid h0
        clear h0
        by_cases h8 : m < 8
        · obtain ⟨k, hk⟩ : ∃ k : Nat, k = 56 - 8 * m := ⟨_, rfl⟩
          have e : (56 - 8 * (m : Int)) = (k : Int) := by omega
          have e8 : IntKind.i64.wrap (8 * s.many) = 8 * s.many := IntWalk.i64_in _ (by omega)
          have hkb : decide ((0 : Int) ≤ (k : Int)) = true := by simp
          have hku : (k : Int) % 18446744073709551616 = (k : Int) := by omega
          have HK := Lib.hid (show k + 8 * m = 56 by omega)
          have HN2 := Lib.hid (show n2 = n + m ∧ n2 < 200 by have := HN.out; omega)
          have HL2 := Lib.hid hl2
          rw [e]
          clear e hk hn2 hl2 hm HMM
          go_wp2_with (first | (at_builtin; refine wpList_append1M rfl _ _ 74 rfl info_u8 Tryd.underlying74 rfl hown hB (Nat.le_refl _) hwsz rfl (by rw [HL2.out]; have := HN2.out; omega) rfl rfl ?_; intro v' w2 hown' hB'))
          go_roundw
          case rel =>
            refine ⟨m + 1, by omega, by have := HK.out; rw [IntWalk.wrap64_in _ (by omega)]; congr 1; omega, ?_, hB'⟩
            rw [lenB_val s.many k (56 - 8 * m) HMANY.out.1 (by have := HK.out; omega) (by omega)] at hown'
            rw [lenB_succ, ← List.append_assoc, bvs_append]
            exact hown'
          case measure =>
            have := HK.out
            rw [IntWalk.wrap64_in _ (by omega)]
            show ((k : Int) - 8 + 8).toNat < ((k : Int) + 8).toNat
            omega
        · have hm8 : m = 8 := by omega
          subst hm8
          clear hm h8
          have hi8 : (56 - 8 * ((8 : Nat) : Int)) = -8 := by decide
          rw [hi8]
          clear hi8
          obtain ⟨full, hfull⟩ : ∃ full, full = pads s.rest ++ lenB (8 * s.many.toNat) 8 := ⟨_, rfl⟩
          rw [← hfull] at hown hl2
          have HFULL := Lib.hid hfull
          have hfl : full.length = n2 := by simpa [bvs] using hl2
          have hn64 : n2 % 64 = 0 ∧ n2 < 200 := by have := HN.out; omega
          obtain ⟨g', cap', cur, lo, hi, hvv, hgb, hgrow, hmark, hnc, hcm, hcs, htake⟩ := hown
          injection hvv with hv1 hvl hv2
          clear hvl
          injection hv1 with hv1
          injection hv1 with hv1 _ _
          subst hv1
          subst hv2
          have HROW := Lib.hid hgrow
          have HTAKE := Lib.hid htake
          have HFL := Lib.hid hfl
          have HCAP := Lib.hid (show n2 ≤ cap2 ∧ cur.size = cap2 by rw [hl2] at hnc; exact ⟨hnc, hcs⟩)
          have HN64 := Lib.hid hn64
          have HGB := Lib.hid hgb
          have hB3 : Below w.heap.size w wr := HBL.out.trans (hB.mono (by omega))
          clear hfull hl2 hfl hn64 hgb hgrow hmark hnc hcm hcs htake HMM hn2 a9
          go_wp2_with fail
          have hE0 : EndW w wr ⟨s.heads, s.rest, s.many⟩ g2 cur lo hi := ⟨H0.out, HROW.out, by have := HGB.out; omega, hB3⟩
          clear hB3 hB hwsz
          go_loopw [4] (fun v wr => ∃ (t off c : Nat), 64 * t ≤ n2 ∧ v = .slice (some ⟨g2, off, none⟩) (n2 - 64 * t) c ∧ (64 * t < n2 → off = 64 * t) ∧ n2 - 64 * t ≤ c ∧ EndW w wr ⟨blkN s.heads ⟨full.toArray⟩ t, s.rest, s.many⟩ g2 cur lo hi) (fun v _ => sliceLen v)
          case atStart => exact ⟨0, 0, cap2, by omega, by rw [Nat.mul_zero, Nat.sub_zero], fun _ => rfl, by have := HCAP.out; omega, hE0⟩
          case round =>
            clear hE0
            obtain ⟨t, off, c, ht, rfl, hoff, hc, hE⟩ := hrel
            obtain ⟨d, hd⟩ : ∃ d, d = n2 - 64 * t := ⟨_, rfl⟩
            rw [← hd] at hc ⊢
            have h64 := HN64.out
            by_cases hpos : 0 < d
            · have ho := hoff (by omega)
              subst ho
              have hd64 : 64 ≤ d := by omega
              have hok2 := blkN_ok s.heads ⟨full.toArray⟩ HOK.out t
              have hsz : ((ByteArray.mk full.toArray).extract (64 * t) (64 * t + 64)).size = 64 := by
                have : (ByteArray.mk full.toArray).size = n2 := by rw [← HFL.out]; rfl
                simp only [ByteArray.size_extract, this]
                omega
              have HKB := Lib.hid (fun (w' : World) (h : w'.heap[g2]? = some (.cells cur 5 (lo, hi))) (c : Nat) => piece_string (t := t) (c := c) h HTAKE.out (by rw [HFL.out]; omega))
              have HNX : Hid (blkN s.heads ⟨full.toArray⟩ (t + 1) = blockF (blkN s.heads ⟨full.toArray⟩ t) ((ByteArray.mk full.toArray).extract (64 * t) (64 * t + 64))) := Lib.hid rfl
              have HD := Lib.hid (show d = n2 - 64 * t ∧ 64 ≤ d ∧ 64 * t ≤ n2 ∧ d ≤ c from ⟨hd, hd64, ht, hc⟩)
              have HSZ := Lib.hid hsz
              have HOK2 := Lib.hid hok2
              have hdb : decide ((0 : Int) < (d : Int)) = true := by simp; omega
              have hci : (64 : Int) ≤ (c : Int) := by omega
              have hdi : (64 : Int) ≤ (d : Int) := by omega
              clear hd hoff hc ht h64 hd64 hsz hok2 hpos
              generalize (ByteArray.mk full.toArray).extract (64 * t) (64 * t + 64) = blk at *
              generalize blkN s.heads ⟨full.toArray⟩ t = hh at *
              obtain ⟨a0, a1, a2, a3, a4, a5, a6, a7, a8, a9⟩ := block10 hE.h0
              dsimp only at a0 a1 a2 a3 a4 a5 a6 a7
              clear a8 a9
              go_wp2_with fail
              refine Lone.wp_region_order [(0, false), (1, false), (2, false), (3, false), (4, false), (5, true), (6, false), (7, true)] (fun w' => w'.cell? ⟨w.heap.size, 0, none⟩ = some (.int .u32 hh.a) ∧ w'.cell? ⟨w.heap.size, 1, none⟩ = some (.int .u32 hh.b) ∧ w'.cell? ⟨w.heap.size, 2, none⟩ = some (.int .u32 hh.c) ∧ w'.cell? ⟨w.heap.size, 3, none⟩ = some (.int .u32 hh.d) ∧ w'.cell? ⟨w.heap.size, 4, none⟩ = some (.int .u32 hh.e) ∧ w'.cell? ⟨w.heap.size, 5, none⟩ = some (.int .u32 hh.f) ∧ w'.cell? ⟨w.heap.size, 6, none⟩ = some (.int .u32 hh.g) ∧ w'.cell? ⟨w.heap.size, 7, none⟩ = some (.int .u32 hh.h) ∧ w'.heap[g2]? = some (.cells cur 5 (lo, hi))) (by kernel_rfl) (by kernel_rfl) rfl (by kernel_rfl) (by intro _ _ d _ _ h; cases d <;> exact h) (⟨a0, a1, a2, a3, a4, a5, a6, a7, hE.h1⟩) ?_; simp only [List.map_cons, List.map_nil, List.getElem?_toArray, List.getElem?_cons_zero, List.getElem?_cons_succ, Option.getD_some]
              repeat (first | (refine Lone.ro_q (by rfl) (v := ?_) ?_ ?_; rotate_left; (focus (intro w' hSw; (try dsimp only at hSw); go_simp; try with_reducible rfl)); simp only [Act.put, List.setIfInBounds_toArray, List.set_cons_zero, List.set_cons_succ]) | (refine Lone.ro_skip (by rfl) ?_; simp only [Act.put, List.setIfInBounds_toArray, List.set_cons_zero, List.set_cons_succ]))
              refine Lone.ro_q (by rfl) (v := .string blk) ?_ ?_
              · intro w' hSw
                have hk := HKB.out w' hSw.2.2.2.2.2.2.2.2 c
                simp only [execOp, Act.eval, List.getElem?_toArray, List.getElem?_cons_zero, List.getElem?_cons_succ, Array.getD_eq_getD_getElem?, Option.getD_some, Sem.run_bind, hk, Result.andThen, Sem.run_pure]
              simp only [Act.put, List.setIfInBounds_toArray, List.set_cons_zero, List.set_cons_succ]
              repeat (first | (refine Lone.ro_q (by rfl) (v := ?_) ?_ ?_; rotate_left; (focus (intro w' hSw; (try dsimp only at hSw); go_simp; try with_reducible rfl)); simp only [Act.put, List.setIfInBounds_toArray, List.set_cons_zero, List.set_cons_succ]) | (refine Lone.ro_skip (by rfl) ?_; simp only [Act.put, List.setIfInBounds_toArray, List.set_cons_zero, List.set_cons_succ]))
              (refine Lone.ro_loud (by rfl) (fun K hK => ?_); go_simp)
              refine (block_any hh blk _ HSZ.out HOK2.out (fun i hi => by rw [hE.drew.bel.cell (p := ⟨0, i, none⟩) HTB.out]; exact htab.out i hi)).mono ?_
              rintro e w5 ⟨rfl, hb5⟩
              have hE5 := hE.drew.below' hb5
              obtain ⟨e0, e1, e2, e3, e4, e5, e6, e7, e8, e9⟩ := block10 hE5.h0
              dsimp only at e0 e1 e2 e3 e4 e5 e6 e7
              clear e8 e9
              have y0 := row_free hE5.h0 0
              have y1 := row_free hE5.h0 1
              have y2 := row_free hE5.h0 2
              have y3 := row_free hE5.h0 3
              have y4 := row_free hE5.h0 4
              have y5 := row_free hE5.h0 5
              have y6 := row_free hE5.h0 6
              have y7 := row_free hE5.h0 7
              simp only [hdV]
              (refine hK.out _ _ (fun w' => w'.cell? ⟨w.heap.size, 0, none⟩ = some (.int .u32 hh.a) ∧ w'.cell? ⟨w.heap.size, 1, none⟩ = some (.int .u32 hh.b) ∧ w'.cell? ⟨w.heap.size, 2, none⟩ = some (.int .u32 hh.c) ∧ w'.cell? ⟨w.heap.size, 3, none⟩ = some (.int .u32 hh.d) ∧ w'.cell? ⟨w.heap.size, 4, none⟩ = some (.int .u32 hh.e) ∧ w'.cell? ⟨w.heap.size, 5, none⟩ = some (.int .u32 hh.f) ∧ w'.cell? ⟨w.heap.size, 6, none⟩ = some (.int .u32 hh.g) ∧ w'.cell? ⟨w.heap.size, 7, none⟩ = some (.int .u32 hh.h) ∧ w'.heap[g2]? = some (.cells cur 5 (lo, hi))) (.inl fun _ h => h) (⟨e0, e1, e2, e3, e4, e5, e6, e7, hE5.h1⟩) ?_; clear hK K; try simp only [Act.put, List.setIfInBounds_toArray, List.set_cons_zero, List.set_cons_succ])
              repeat (first | (refine Lone.ro_q (by rfl) (v := ?_) ?_ ?_; rotate_left; (focus (intro w' hSw; (try dsimp only at hSw); go_simp; try with_reducible rfl)); simp only [Act.put, List.setIfInBounds_toArray, List.set_cons_zero, List.set_cons_succ]) | (refine Lone.ro_skip (by rfl) ?_; simp only [Act.put, List.setIfInBounds_toArray, List.set_cons_zero, List.set_cons_succ]))
              (refine Lone.ro_loud (by rfl) (fun K hK => ?_); go_simp)
              (refine hK.out _ _ (fun _ => True) (.inr (by kernel_rfl)) (trivial) ?_; clear hK K; try simp only [Act.put, List.setIfInBounds_toArray, List.set_cons_zero, List.set_cons_succ])
              (refine Lone.ro_nil ?_; go_wp2_with fail)
              go_roundw
              case rel =>
                have hD := HD.out
                refine ⟨t + 1, if c = 64 then 64 * t else 64 * t + 64, c - 64, by omega, ?_, ?_, by omega, ?_⟩
                · rw [show n2 - 64 * (t + 1) = d - 64 by omega]
                  split <;> rfl
                · intro h
                  split <;> omega
                · rw [HNX.out]
                  exact hE5.heads (blockF hh blk)
              case measure =>
                have hD := HD.out
                simp only [sliceLen]
                omega
            · have hd0 : d = 0 := by omega
              have htn : t = n2 / 64 := by omega
              rw [hd0]
              rw [htn] at hE
              have HOKE := Lib.hid (blkN_ok s.heads ⟨full.toArray⟩ HOK.out (n2 / 64))
              obtain ⟨a0, a1, a2, a3, a4, a5, a6, a7, a8, a9⟩ := block10 hE.h0
              dsimp only at a0 a1 a2 a3 a4 a5 a6 a7
              clear a8 a9 hoff hc ht hpos hd hd0 htn h64
              clear t
              obtain ⟨hh, hhh⟩ : ∃ hh, hh = blkN s.heads ⟨full.toArray⟩ (n2 / 64) := ⟨_, rfl⟩
              have HHH := Lib.hid hhh
              rw [← hhh] at hE HOKE a0 a1 a2 a3 a4 a5 a6 a7
              clear hhh
              go_wp2_with fail
              have hbw := hE.bel
              clear hE a0 a1 a2 a3 a4 a5 a6 a7
              go_loopw [51, 6] (fun i v wr => ∃ k : Nat, k ≤ 8 ∧ i = .int .i64 k ∧ wr.ownsRow w.heap.size 5 1 v (4 * k) (bvs (outB hh k)) ∧ Below w.heap.size w wr) (fun i _ _ => 8 - (intOf i).toNat)
              case atStart => exact ⟨0, by omega, rfl, World.ownsRow_nil _ _ _ _, hbw⟩
              case round =>
                clear hbw
                obtain ⟨k, hk, rfl, hown, hB⟩ := hrel
                have hsz := hB.size
                by_cases h8 : k < 8
                · have hix := fun (w : World) => run_idx8 w _ k _ h8 (idx_get hh k h8)
                  have k8 : (k : Int) < 8 := by omega
                  have kb : decide ((k : Int) < 8) = true := by simp; omega
                  have hn4 : 4 * k < 40 := by omega
                  have HON : Hid (outB hh (k + 1) = outB hh k ++ four (idx hh k)) := Lib.hid rfl
                  have HY := Lib.hid (idx_ok HOKE.out k).1
                  generalize idx hh k = y at *
                  obtain ⟨xs, hxs⟩ : ∃ xs, xs = bvs (outB hh k) := ⟨_, rfl⟩
                  rw [← hxs] at hown
                  have HXS := Lib.hid hxs
                  clear hxs
                  go_wp2_with (first | (at_builtin; refine wpList_appendN rfl _ _ 74 rfl info_u8 Tryd.underlying74 rfl hown hB (Nat.le_refl _) hsz 4 rfl (by simp [Value.oneCell']) (by omega) rfl rfl ?_; intro v' w2 hown' hB'))
                  go_roundw
                  case rel =>
                    refine ⟨k + 1, by omega, rfl, ?_, hB'⟩
                    rw [HON.out, bvs_append, four_vals y HY.out, ← HXS.out]
                    exact hown'
                  case measure => simp [intOf]; omega
                · have hk8 : k = 8 := by omega
                  subst hk8
                  have kb : decide (((8 : Nat) : Int) < 8) = false := by simp
                  clear hk h8
                  have hR := rdRow_of_owns hown
                  have HOWN := Lib.hid hown
                  clear hown
                  go_wp2_with (first | (refine wpList_bytes_string rfl _ _ _ _ rfl Tryd.underlying74 Tryd.underlying5 Tryd.underlying9 (l := outB hh 8) (n := 32) hR rfl ?_))
                  have hfin : endF s = ⟨(outB hh 8).toArray⟩ := by
                    have h1 : padded s = full := HFULL.out.symm
                    rw [endF, h1, HFL.out, ← HHH.out]
                  go_ret2
                  exact ⟨by rw [hfin]; rfl, hB⟩
end Go.Proofs.YtinhjnbgblieeaaDoor
