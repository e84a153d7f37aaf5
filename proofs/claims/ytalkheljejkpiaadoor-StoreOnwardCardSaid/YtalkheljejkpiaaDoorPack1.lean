/- The walk of package pack's best. -/
import Derived.Test.YtalkheljejkpiaaDoorPackLaw
import Derived.Test.YtalkheljejkpiaaDoorInts
import Derived.Test.YtalkheljejkpiaaDoorDlt
namespace Go.Proofs.YtalkheljejkpiaaDoor
open Go.RowKit
set_option linter.unusedVariables false
set_option linter.unusedSimpArgs false

theorem make_bound {a b d : ByteArray} (h : makeF a b = (d, 0)) : d.size ≤ 8200 := by
  unfold makeF at h
  split at h
  · next hc =>
    injection h with h _
    rw [← h]
    have := makeD_le hc.1 hc.2
    omega
  · injection h with _ h; cases h
theorem tryE_yes {s d : ByteArray} {l : List ByteArray} {deep : List Nat} {k : Nat} {c : Ch} (h : makeF (l.getD k noB) s = (d, 0)) (h1 : deep.getD k 0 < 8) (h2 : d.size + 2 < c.2.2.size) (h3 : d.size ≤ 4096) : tryE s l deep k c = (1, k, d) := by
  unfold tryE; rw [h, if_pos ⟨rfl, h1, h2, h3⟩]
theorem tryE_no {s d : ByteArray} {l : List ByteArray} {deep : List Nat} {k : Nat} {c : Ch} {e : Int} (h : makeF (l.getD k noB) s = (d, e)) (h1 : ¬ (e = 0 ∧ deep.getD k 0 < 8 ∧ d.size + 2 < c.2.2.size ∧ d.size ≤ 4096)) : tryE s l deep k c = c := by
  unfold tryE; rw [h, if_neg h1]
theorem tryO_yes {s d : ByteArray} {out : List ByteArray} {k : Nat} {c : Ch} (h : makeF (out.getD k noB) s = (d, 0)) (h2 : d.size + 32 < c.2.2.size) (h3 : d.size ≤ 4096) : tryO s out k c = (2, k, d) := by
  unfold tryO; rw [h, if_pos ⟨rfl, h2, h3⟩]
theorem tryO_no {s d : ByteArray} {out : List ByteArray} {k : Nat} {c : Ch} {e : Int} (h : makeF (out.getD k noB) s = (d, e)) (h1 : ¬ (e = 0 ∧ d.size + 32 < c.2.2.size ∧ d.size ≤ 4096)) : tryO s out k c = c := by
  unfold tryO; rw [h, if_neg h1]
theorem goT_step {f : Nat → Ch → Ch} {n k : Nat} {c : Ch} (h : k < n) : goT f (n - k) k c = goT f (n - (k + 1)) (k + 1) (f k c) := by
  rw [show n - k = (n - (k + 1)) + 1 by omega]; rfl
theorem ch_cells {w : World} {n : Nat} {a b c : Value} (h : w.heap[n]? = some (.cells #[a, b, c] 71 (0, 0))) :
    w.cell? ⟨n, 0, none⟩ = some a ∧ w.cell? ⟨n, 1, none⟩ = some b ∧ w.cell? ⟨n, 2, none⟩ = some c := by
  refine ⟨?_, ?_, ?_⟩ <;> simp [World.cell?, h]
set_option maxRecDepth 100000 in
set_option maxHeartbeats 3200000 in
theorem best_any (s : ByteArray) (l : List ByteArray) (deep : List Nat) (D : List Int) (out : List ByteArray) (vl vd vo : Value) (w : World) (hs : s.size ≤ 9223372036854775807) (hl : rdS w vl l) (hd : rdI w vd D) (ho : rdS w vo out) (hsl : smalls l) (hso : smalls out)
    (hll : l.length ≤ 400 ∧ out.length ≤ 400) (hD : l.length ≤ D.length ∧ ∀ i, i < l.length → D.getD i 0 = ((deep.getD i 0 : Nat) : Int)) :
    Calls Tryd.prog 35 #[.string s, vl, vd, vo] w fun e w' => e = .returned (.agg #[.int .i64 ((bestF s l deep out).1 : Int), .int .i64 ((bestF s l deep out).2.1 : Int), .string (bestF s l deep out).2.2]) ∧ Below w.heap.size w w' := by
  obtain ⟨F, hF⟩ : ∃ F, F = bestF s l deep out := ⟨_, rfl⟩
  rw [← hF]
  obtain ⟨C1, hC1⟩ : ∃ C, C = goT (tryE s l deep) (l.length - (l.length - 10)) (l.length - 10) (0, 0, s) := ⟨_, rfl⟩
  have HC1 := Lib.hid hC1
  have HF := Lib.hid (hF.trans (show _ = goT (tryO s out) (out.length - (out.length - 10)) (out.length - 10) C1 by rw [hC1]; rfl))
  obtain ⟨a1, a2, rfl⟩ := rd_form hl
  obtain ⟨a3, a4, rfl⟩ := rd_form hd
  obtain ⟨a5, a6, rfl⟩ := rd_form ho
  obtain ⟨W, hW⟩ : ∃ W, (w.alloc (.cells #[.int .i64 0, .int .i64 0, .string ⟨#[]⟩] 71)) = W := ⟨_, rfl⟩
  have hb1 : Below w.heap.size w W := by rw [← hW]; exact (Below.refl _ _).alloc (Nat.le_refl _) _
  have gR0 : W.heap[w.heap.size]? = some (.cells #[.int .i64 0, .int .i64 0, .string ⟨#[]⟩] 71 (0, 0)) := by rw [← hW]; exact heap_alloc_new _ _
  have hWs : W.heap.size = w.heap.size + 1 := by rw [← hW]; simp
  have HWS := Lib.hid hWs
  have HW0 := Lib.hid hb1
  have HGR := Lib.hid gR0
  have HL := Lib.hid (fun wr (h : Below w.heap.size w wr) => hl.below h)
  have HDR := Lib.hid (fun wr (h : Below w.heap.size w wr) => hd.below h)
  have HO := Lib.hid (fun wr (h : Below w.heap.size w wr) => ho.below h)
  have HSL := Lib.hid hsl
  have HSO := Lib.hid hso
  have HLL := Lib.hid hll
  have HDD := Lib.hid hD
  have HS := Lib.hid hs
  clear hl hd ho hsl hso hll hD hF hC1 hb1 gR0 hWs hs
  have hm1 : max 0 ((l.length : Int) - 10) = ((l.length - 10 : Nat) : Int) := by omega
  have hm2 : max 0 ((out.length : Int) - 10) = ((out.length - 10 : Nat) : Int) := by omega
  have hs1 : wrap64 ((l.length : Int) - 10) = (l.length : Int) - 10 := IntWalk.wrap64_in _ (by have := HLL.out; omega)
  have hs2 : wrap64 ((out.length : Int) - 10) = (out.length : Int) - 10 := IntWalk.wrap64_in _ (by have := HLL.out; omega)
  have hl4 : (l.length : Int) ≤ 400 := by have := HLL.out; omega
  have ho4 : (out.length : Int) ≤ 400 := by have := HLL.out; omega
  have HM2 := Lib.hid hm2
  have HS2 := Lib.hid hs2
  clear hm2 hs2
  go_enter Tryd.func35, Tryd.ntmps35
  go_wp2_with (refine wpList_store_blk (by rfl) 71 (.tmp 9) (.tmp 17) rfl W.heap.size #[.int .i64 0, .int .i64 0, .string s] rfl rfl (old := _) (heap_alloc_new _ _) (by kernel_rfl) rfl (by simp [Value.oneCell']) ?_; intro w1 gz uz; have hbz := below_upd ((Below.refl W.heap.size W).alloc (Nat.le_refl _) _) uz (Nat.le_refl _) (by simp); have HG1 := Lib.hid (blk_below HGR.out hbz); have HB1 := Lib.hid (HW0.out.trans (hbz.mono HW0.out.size)); have HC0 := Lib.hid gz; clear gz uz hbz)
  rw [HWS.out] at HC0 ⊢
  clear hW hm1 hs1
  go_loopw [10] (fun i wr => ∃ (k h t : Nat) (tx : ByteArray), l.length - 10 ≤ k ∧ k ≤ l.length ∧ i = .int .i64 (k : Int) ∧ Hid (C1 = goT (tryE s l deep) (l.length - k) k (h, t, tx)) ∧ Hid (wr.heap[w.heap.size + 1]? = some (.cells #[.int .i64 (h : Int), .int .i64 (t : Int), .string tx] 71 (0, 0))) ∧ Hid (wr.heap[w.heap.size]? = some (.cells #[.int .i64 0, .int .i64 0, .string ⟨#[]⟩] 71 (0, 0))) ∧ Hid (Below w.heap.size w wr)) (fun i _ => l.length - (intOf i).toNat)
  case atStart => exact ⟨l.length - 10, 0, 0, s, Nat.le_refl _, by omega, rfl, HC1, HC0, HG1, HB1⟩
  case round =>
    clear HC1 HC0 HG1 HB1 HGR
    obtain ⟨k, h, t, tx, hk0, hk, rfl, HST0, HC2, HG2, HB2⟩ := hrel
    obtain ⟨q0, q1, q2⟩ := ch_cells HC2.out
    by_cases hkl : k < l.length
    · have HKL := Lib.hid hkl
      have kb : decide ((k : Int) < (l.length : Int)) = true := decide_eq_true (by omega)
      have ki : (k : Int) < (l.length : Int) := by omega
      have kz : (0 : Int) ≤ (k : Int) := by omega
      obtain ⟨bl, ol, hbl, _, hcl⟩ := rdS_at' (HL.out _ HB2.out) (by omega)
      subst hbl
      have e0 := hcl k hkl
      obtain ⟨x, hx⟩ : ∃ x, x = l.getD k noB := ⟨_, rfl⟩
      rw [← hx] at e0
      have hmk := make_any x s wr (by rw [hx]; have := smalls_at HSL.out k; exact Nat.le_trans this (by decide)) HS.out
      obtain ⟨⟨d, e0_⟩, hq⟩ : ∃ q, q = makeF x s := ⟨_, rfl⟩
      rw [← hq] at hmk
      have HMK := Lib.hid (show makeF (l.getD k noB) s = (d, e0_) by rw [← hx, hq])
      have HST := Lib.hid (HST0.out.trans (goT_step hkl))
      clear hcl hx hkl HST0 hq
      have hdl := HDD.out.1
      have hdk := HDD.out.2 k HKL.out
      obtain ⟨dv, hdv⟩ : ∃ dv, dv = D.getD k 0 := ⟨_, rfl⟩
      rw [← hdv] at hdk
      obtain ⟨bd, od, hbd, _, hcd⟩ := rdI_at (HDR.out _ HB2.out) (by have := HKL.out; omega)
      subst hbd
      have kd : (k : Int) < (D.length : Int) := by have := HKL.out; omega
      have HDC := Lib.hid (fun wr (h : Below w.heap.size w wr) => rdI_cl (HDR.out wr h) (show k < D.length by have := HKL.out; omega))
      rw [← hdv] at HDC
      have HDK := Lib.hid hdk
      clear hcd hdl hdk hdv
      go_wp2_with fail
      (with_reducible refine hmk.mono ?_)
      rintro e w2 ⟨rfl, hb⟩
      have HBn := Lib.hid (HB2.out.trans (hb.mono HB2.out.size))
      have HCn := Lib.hid (blk_below HC2.out hb)
      have HGn := Lib.hid (blk_below HG2.out hb)
      clear hb hmk HB2 HC2 HG2 q0 q1 q2 e0
      have HB2 := HBn
      have HC2 := HCn
      have HG2 := HGn
      clear HBn HCn HGn
      obtain ⟨q0, q1, q2⟩ := ch_cells HC2.out
      obtain ⟨e0, he0⟩ : ∃ e, e = e0_ := ⟨_, rfl⟩
      rw [← he0] at HMK ⊢
      clear he0
      have g0 := HDC.out _ HB2.out
      obtain ⟨ds, hds⟩ : ∃ n : Int, (d.size : Int) = n := ⟨_, rfl⟩
      obtain ⟨zs, hzs⟩ : ∃ n : Int, (tx.size : Int) = n := ⟨_, rfl⟩
      have hdb : e0 = 0 → ds ≤ 8200 := fun h => by have := make_bound (d := d) (by rw [HMK.out, h]); omega
      have hd0 : 0 ≤ ds := by omega
      have hkk := HKL.out
      have hll := HLL.out
      by_cases he : e0 = 0
      · subst he
        by_cases h1 : dv < 8
        · have t1 : decide (dv < 8) = true := decide_eq_true h1
          by_cases h2 : ds + 2 < zs
          · have t2 : decide (ds + 2 < zs) = true := decide_eq_true h2
            by_cases h3 : ds ≤ 4096
            · have t3 : decide (ds ≤ 4096) = true := decide_eq_true h3
              have HT1 := Lib.hid (show tryE s l deep k (h, t, tx) = (1, k, d) from tryE_yes HMK.out (by have := HDK.out; omega) (by show d.size + _ < tx.size; omega) (by omega))
              clear h1 h2 h3
              have hA1 : w.heap.size ≤ w.heap.size + 1 := by omega
              have hN1 : w.heap.size ≠ w.heap.size + 1 := by omega
              have hK1 : l.length - 10 ≤ k + 1 := by omega
              have hK2 : k + 1 ≤ l.length := by have := HKL.out; omega
              have hd8 : ds ≤ 8200 := hdb rfl
              clear hdb hkk hll
              go_wp2_with (refine wpList_store_blk (by rfl) 71 (.tmp 9) (.tmp 62) rfl (w.heap.size + 1) #[.int .i64 1, .int .i64 (k : Int), .string d] rfl rfl (old := _) HC2.out (by kernel_rfl) rfl (by simp [Value.oneCell']) ?_; intro wz gz uz; have HC3 := Lib.hid gz; have HB3 := Lib.hid (below_upd HB2.out uz hA1 HB2.out.size); have HG3 := Lib.hid (blk_upd HG2.out uz hN1); clear gz uz)
              exact ⟨⟨k + 1, 1, k, d, hK1, hK2, rfl, Lib.hid (HST.out.trans (by rw [HT1.out])), HC3, HG3, HB3⟩, meas_step (n := l.length) _ rfl HKL.out⟩
            · have t3 : decide (ds ≤ 4096) = false := decide_eq_false h3
              have HT1 := Lib.hid (show tryE s l deep k (h, t, tx) = (h, t, tx) from tryE_no HMK.out (fun z => h3 (by have := z.2.2.2; omega)))
              have hK1 : l.length - 10 ≤ k + 1 := by omega
              have hK2 : k + 1 ≤ l.length := by have := HKL.out; omega
              have hd8 : ds ≤ 8200 := hdb rfl
              clear hdb hkk hll h1 h2 h3
              go_wp2_with fail
              go_roundw
              case rel => exact ⟨k + 1, h, t, tx, hK1, hK2, rfl, Lib.hid (HST.out.trans (by rw [HT1.out])), HC2, HG2, HB2⟩
              case measure => exact meas_step (n := l.length) _ rfl HKL.out
          · have t2 : decide (ds + 2 < zs) = false := decide_eq_false h2
            have HT1 := Lib.hid (show tryE s l deep k (h, t, tx) = (h, t, tx) from tryE_no HMK.out (fun z => h2 (by have := z.2.2.1; dsimp only at this; omega)))
            have hK1 : l.length - 10 ≤ k + 1 := by omega
            have hK2 : k + 1 ≤ l.length := by have := HKL.out; omega
            have hd8 : ds ≤ 8200 := hdb rfl
            clear hdb hkk hll h1 h2
            go_wp2_with fail
            go_roundw
            case rel => exact ⟨k + 1, h, t, tx, hK1, hK2, rfl, Lib.hid (HST.out.trans (by rw [HT1.out])), HC2, HG2, HB2⟩
            case measure => exact meas_step (n := l.length) _ rfl HKL.out
        · have t1 : decide (dv < 8) = false := decide_eq_false h1
          have HT1 := Lib.hid (show tryE s l deep k (h, t, tx) = (h, t, tx) from tryE_no HMK.out (by have := HDK.out; rintro ⟨z1, z2⟩; omega))
          have hK1 : l.length - 10 ≤ k + 1 := by omega
          have hK2 : k + 1 ≤ l.length := by have := HKL.out; omega
          have hd8 : ds ≤ 8200 := hdb rfl
          clear hdb hkk hll h1
          go_wp2_with fail
          go_roundw
          case rel => exact ⟨k + 1, h, t, tx, hK1, hK2, rfl, Lib.hid (HST.out.trans (by rw [HT1.out])), HC2, HG2, HB2⟩
          case measure => exact meas_step (n := l.length) _ rfl HKL.out
      · have n1 : (e0 == 0) = false := beq_eq_false_iff_ne.2 he
        have HT1 := Lib.hid (show tryE s l deep k (h, t, tx) = (h, t, tx) from tryE_no HMK.out (fun z => he z.1))
        have hK1 : l.length - 10 ≤ k + 1 := by omega
        have hK2 : k + 1 ≤ l.length := by have := HKL.out; omega
        clear hdb hkk hll  he
        go_wp2_with fail
        go_roundw
        case rel => exact ⟨k + 1, h, t, tx, hK1, hK2, rfl, Lib.hid (HST.out.trans (by rw [HT1.out])), HC2, HG2, HB2⟩
        case measure => exact meas_step (n := l.length) _ rfl HKL.out
    · have kb : decide ((k : Int) < (l.length : Int)) = false := decide_eq_false (by omega)
      have kb2 : decide (k < l.length) = false := decide_eq_false hkl
      have hCc : C1 = (h, t, tx) := HST0.out.trans (by rw [show l.length - k = 0 by omega]; rfl)
      have HFC2 := Lib.hid (HF.out.trans (congrArg (goT (tryO s out) (out.length - (out.length - 10)) (out.length - 10)) hCc))
      clear hkl HST0 hCc
      have hm2 := HM2.out
      have hs2 := HS2.out
      go_wp2_with fail
      clear hm2 hs2
      go_loopw [13] (fun i wr => ∃ (k h t : Nat) (tx : ByteArray), out.length - 10 ≤ k ∧ k ≤ out.length ∧ i = .int .i64 (k : Int) ∧ Hid (F = goT (tryO s out) (out.length - k) k (h, t, tx)) ∧ Hid (wr.heap[w.heap.size + 1]? = some (.cells #[.int .i64 (h : Int), .int .i64 (t : Int), .string tx] 71 (0, 0))) ∧ Hid (wr.heap[w.heap.size]? = some (.cells #[.int .i64 0, .int .i64 0, .string ⟨#[]⟩] 71 (0, 0))) ∧ Hid (Below w.heap.size w wr)) (fun i _ => out.length - (intOf i).toNat)
      case atStart => exact ⟨out.length - 10, h, t, tx, Nat.le_refl _, by omega, rfl, HFC2, HC2, HG2, HB2⟩
      case round =>
        clear HFC2 HC2 HG2 HB2 q0 q1 q2
        obtain ⟨k, h, t, tx, hk0, hk, rfl, HST0, HC2, HG2, HB2⟩ := hrel
        obtain ⟨q0, q1, q2⟩ := ch_cells HC2.out
        by_cases hkl : k < out.length
        · have HKL := Lib.hid hkl
          have kb : decide ((k : Int) < (out.length : Int)) = true := decide_eq_true (by omega)
          have ki : (k : Int) < (out.length : Int) := by omega
          have kz : (0 : Int) ≤ (k : Int) := by omega
          obtain ⟨bl, ol, hbl, _, hcl⟩ := rdS_at' (HO.out _ HB2.out) (by omega)
          subst hbl
          have e0 := hcl k hkl
          obtain ⟨x, hx⟩ : ∃ x, x = out.getD k noB := ⟨_, rfl⟩
          rw [← hx] at e0
          have hmk := make_any x s wr (by rw [hx]; have := smalls_at HSO.out k; exact Nat.le_trans this (by decide)) HS.out
          obtain ⟨⟨d, e0_⟩, hq⟩ : ∃ q, q = makeF x s := ⟨_, rfl⟩
          rw [← hq] at hmk
          have HMK := Lib.hid (show makeF (out.getD k noB) s = (d, e0_) by rw [← hx, hq])
          have HST := Lib.hid (HST0.out.trans (goT_step hkl))
          clear hcl hx hkl HST0 hq
          go_wp2_with fail
          (with_reducible refine hmk.mono ?_)
          rintro e w2 ⟨rfl, hb⟩
          have HBn := Lib.hid (HB2.out.trans (hb.mono HB2.out.size))
          have HCn := Lib.hid (blk_below HC2.out hb)
          have HGn := Lib.hid (blk_below HG2.out hb)
          clear hb hmk HB2 HC2 HG2 q0 q1 q2 e0
          have HB2 := HBn
          have HC2 := HCn
          have HG2 := HGn
          clear HBn HCn HGn
          obtain ⟨q0, q1, q2⟩ := ch_cells HC2.out
          obtain ⟨e0, he0⟩ : ∃ e, e = e0_ := ⟨_, rfl⟩
          rw [← he0] at HMK ⊢
          clear he0
          obtain ⟨ds, hds⟩ : ∃ n : Int, (d.size : Int) = n := ⟨_, rfl⟩
          obtain ⟨zs, hzs⟩ : ∃ n : Int, (tx.size : Int) = n := ⟨_, rfl⟩
          have hdb : e0 = 0 → ds ≤ 8200 := fun h => by have := make_bound (d := d) (by rw [HMK.out, h]); omega
          have hd0 : 0 ≤ ds := by omega
          have hkk := HKL.out
          have hll := HLL.out
          by_cases he : e0 = 0
          · subst he
            by_cases h2 : ds + 32 < zs
            · have t2 : decide (ds + 32 < zs) = true := decide_eq_true h2
              by_cases h3 : ds ≤ 4096
              · have t3 : decide (ds ≤ 4096) = true := decide_eq_true h3
                have HT1 := Lib.hid (show tryO s out k (h, t, tx) = (2, k, d) from tryO_yes HMK.out (by show d.size + _ < tx.size; omega) (by omega))
                clear h2 h3
                have hA1 : w.heap.size ≤ w.heap.size + 1 := by omega
                have hN1 : w.heap.size ≠ w.heap.size + 1 := by omega
                have hK1 : out.length - 10 ≤ k + 1 := by omega
                have hK2 : k + 1 ≤ out.length := by have := HKL.out; omega
                have hd8 : ds ≤ 8200 := hdb rfl
                clear hdb hkk hll
                go_wp2_with (refine wpList_store_blk (by rfl) 71 (.tmp 9) (.tmp 100) rfl (w.heap.size + 1) #[.int .i64 2, .int .i64 (k : Int), .string d] rfl rfl (old := _) HC2.out (by kernel_rfl) rfl (by simp [Value.oneCell']) ?_; intro wz gz uz; have HC3 := Lib.hid gz; have HB3 := Lib.hid (below_upd HB2.out uz hA1 HB2.out.size); have HG3 := Lib.hid (blk_upd HG2.out uz hN1); clear gz uz)
                exact ⟨⟨k + 1, 2, k, d, hK1, hK2, rfl, Lib.hid (HST.out.trans (by rw [HT1.out])), HC3, HG3, HB3⟩, meas_step (n := out.length) _ rfl HKL.out⟩
              · have t3 : decide (ds ≤ 4096) = false := decide_eq_false h3
                have HT1 := Lib.hid (show tryO s out k (h, t, tx) = (h, t, tx) from tryO_no HMK.out (fun z => h3 (by have := z.2.2; omega)))
                have hK1 : out.length - 10 ≤ k + 1 := by omega
                have hK2 : k + 1 ≤ out.length := by have := HKL.out; omega
                have hd8 : ds ≤ 8200 := hdb rfl
                clear hdb hkk hll h2 h3
                go_wp2_with fail
                go_roundw
                case rel => exact ⟨k + 1, h, t, tx, hK1, hK2, rfl, Lib.hid (HST.out.trans (by rw [HT1.out])), HC2, HG2, HB2⟩
                case measure => exact meas_step (n := out.length) _ rfl HKL.out
            · have t2 : decide (ds + 32 < zs) = false := decide_eq_false h2
              have HT1 := Lib.hid (show tryO s out k (h, t, tx) = (h, t, tx) from tryO_no HMK.out (fun z => h2 (by have := z.2.1; dsimp only at this; omega)))
              have hK1 : out.length - 10 ≤ k + 1 := by omega
              have hK2 : k + 1 ≤ out.length := by have := HKL.out; omega
              have hd8 : ds ≤ 8200 := hdb rfl
              clear hdb hkk hll h2
              go_wp2_with fail
              go_roundw
              case rel => exact ⟨k + 1, h, t, tx, hK1, hK2, rfl, Lib.hid (HST.out.trans (by rw [HT1.out])), HC2, HG2, HB2⟩
              case measure => exact meas_step (n := out.length) _ rfl HKL.out
          · have n1 : (e0 == 0) = false := beq_eq_false_iff_ne.2 he
            have HT1 := Lib.hid (show tryO s out k (h, t, tx) = (h, t, tx) from tryO_no HMK.out (fun z => he z.1))
            have hK1 : out.length - 10 ≤ k + 1 := by omega
            have hK2 : k + 1 ≤ out.length := by have := HKL.out; omega
            clear hdb hkk hll  he
            go_wp2_with fail
            go_roundw
            case rel => exact ⟨k + 1, h, t, tx, hK1, hK2, rfl, Lib.hid (HST.out.trans (by rw [HT1.out])), HC2, HG2, HB2⟩
            case measure => exact meas_step (n := out.length) _ rfl HKL.out
        · have kb : decide ((k : Int) < (out.length : Int)) = false := decide_eq_false (by omega)
          have kb2 : decide (k < out.length) = false := decide_eq_false hkl
          have hF : F = (h, t, tx) := HST0.out.trans (by rw [show out.length - k = 0 by omega]; rfl)
          subst hF
          clear hkl HST0
          have gR := HG2.out
          go_wp2_with (refine wpList_store_blk (by rfl) 71 (.tmp 8) (.tmp 101) rfl w.heap.size #[.int .i64 (h : Int), .int .i64 (t : Int), .string tx] rfl rfl (old := _) gR (by kernel_rfl) rfl (by simp [Value.oneCell']) ?_; intro wz gz uz)
          obtain ⟨r0, r1, r2⟩ := ch_cells gz
          refine bodyPost_ret (v := .agg #[.int .i64 (h : Int), .int .i64 (t : Int), .string tx]) ?_ rfl ⟨rfl, below_upd HB2.out uz (Nat.le_refl _) HB2.out.size⟩
          simp [results, Tryd.f35, go_sem, r0, r1, r2]
end Go.Proofs.YtalkheljejkpiaaDoor
