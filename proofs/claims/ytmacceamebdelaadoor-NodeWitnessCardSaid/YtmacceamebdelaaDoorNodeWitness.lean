/- The walk of NodeWitness. -/
import Derived.Test.YtmacceamebdelaaDoorNode4
import Derived.Deep.CutBlock
import Derived.Deep.DeepCutAuto
namespace Go.Proofs.YtmacceamebdelaaDoor
open Go.RowKit
set_option linter.unusedVariables false
set_option linter.unusedSimpArgs false

theorem fol_zero {old h : Hed} {ps : List ByteArray} (h0 : folF old h ps = 0) : ¬ h.1 < old.1 ∧ ((h.1 = old.1 ∧ h.2 = old.2) ∨ extF old.2 old.1 h.2 h.1 ps = true) := by
  unfold folF at h0
  split at h0
  · cases h0
  · rename_i h1
    refine ⟨h1, ?_⟩
    split at h0
    · rename_i h2; exact .inl h2
    · split at h0
      · rename_i h3; exact .inr h3
      · cases h0
theorem pick4 (k : Int) (w : World) (hk : -9223372036854775808 ≤ k ∧ k ≤ 9223372036854775807) : Calls Tryd.prog 4 #[.int .i64 k, .int .i64 4] w fun e w' => e = .returned (.int .i64 (k % 4)) ∧ w = w' := pickD_any k 4 w hk.1 hk.2 (by decide) (by decide)
set_option maxRecDepth 100000 in
set_option maxHeartbeats 25600000 in
theorem nodeWitness_walk {w : World} (ht : Tab w) (who0 : Int) (f0 : -9223372036854775808 ≤ who0 ∧ who0 ≤ 9223372036854775807) (key : ByteArray) (f1 : key.size ≤ 140737488351232) (L : List Askv) (v2 : Value) (f2 : RdA w v2 L) :
    Calls Tryd.prog 3 #[.int .i64 who0, .string key, v2] w fun e w' => e = .returned (.bool true) ∧ Below w.heap.size w w' := by
  obtain ⟨ao, cp, rfl⟩ := rd_form f2.row
  have HT := Lib.hid (fun wr (h : Below w.heap.size w wr) => ht.below h)
  have HL := Lib.hid (fun wr (h : Below w.heap.size w wr) => f2.below h)
  have HKS := Lib.hid (show key.size ≤ 140737488355328 by omega)
  have hpk := pick4 who0 w f0
  have hpl : 0 ≤ who0 % 4 ∧ who0 % 4 < 4 := pickD_law who0 4 (by decide)
  obtain ⟨r, hr⟩ : ∃ r, r = who0 % 4 := ⟨_, rfl⟩
  rw [← hr] at hpk hpl
  have HR := Lib.hid (show 0 ≤ r ∧ r < 4 from hpl)
  have hnw := newWit_any r key w HR.out.1 HR.out.2 ht
  obtain ⟨er, her⟩ : ∃ er, er = rootF [] := ⟨_, rfl⟩
  rw [← her] at hnw
  have HER := Lib.hid her
  have HB0 := Lib.hid (Below.refl w.heap.size w)
  have HLL := Lib.hid (rdG_len f2.row)
  clear ht f2 f0 f1 hr hpl her
  go_enter Tryd.func3, Tryd.ntmps3
  go_wp2_with fail
  (with_reducible refine hpk.mono ?_)
  rintro e wz ⟨rfl, rfl⟩
  clear hpk
  go_wp2_with fail
  (with_reducible refine (hnw).mono ?_)
  rintro e w1 ⟨rfl, hb⟩
  have HB1 := Lib.hid (HB0.out.trans (hb.mono HB0.out.size))
  clear hb hnw
  go_wp2_with (refine wpList_store_blk (by rfl) 30 (.tmp 7) (.tmp 27) rfl w1.heap.size #[.int .i64 r, .string key, .slice none 0 0, .int .i64 (-1), .int .i64 0, .string er] rfl rfl (old := _) (heap_alloc_new _ _) (by kernel_rfl) rfl (by simp [Value.oneCell']) ?_; intro w2 gz uz; have hbz := below_upd ((Below.refl w1.heap.size w1).alloc (Nat.le_refl _) _) uz (Nat.le_refl _) (by simp); have HB2 := Lib.hid (HB1.out.trans (hbz.mono HB1.out.size)); have HG2 := Lib.hid gz; clear gz uz hbz)
  obtain ⟨gW, hgW⟩ : ∃ gW, gW = w1.heap.size := ⟨_, rfl⟩
  have HGW := Lib.hid (show w.heap.size ≤ gW by rw [hgW]; exact HB1.out.size)
  rw [← hgW] at HG2 ⊢
  clear hgW
  (with_reducible refine (nodes_any w2 (HT.out _ HB2.out)).mono ?_)
  rintro e w2b ⟨rfl, hb⟩
  have HB := Lib.hid (HB2.out.trans (hb.mono HB2.out.size))
  have HS := Lib.hid (show WitAt w2b w.heap.size gW ⟨r, key, ⟨[], -1⟩, emptyH⟩ none 0 r key from ⟨by unfold emptyH; rw [← HER.out]; exact blk_below HG2.out hb, World.ownsRow_nil _ _ _ _, wit_new _ _, rfl, rfl, (show (-9223372036854775808 : Int) ≤ -1 ∧ (-1 : Int) ≤ 9223372036854775807 by decide)⟩)
  clear hb HG2 HB2 HB1 HB0 HER
  go_wp2_with fail
  go_loopw [9, 10] (fun dn i wr => ∃ (k : Nat) (x : Wit) (a : Option Addr) (c : Nat) (d : Bool), k ≤ L.length ∧ k ≤ 30 ∧ i = .int .i64 (k : Int) ∧ dn = .bool d ∧ Hid (WitAt wr w.heap.size gW x a c r key) ∧ Hid (Below w.heap.size w wr)) (fun _ i _ => 30 - (intOf i).toNat)
  case atStart => exact ⟨0, _, none, 0, false, Nat.zero_le _, Nat.zero_le _, rfl, rfl, HS, HB⟩
  case round =>
    clear HS HB
    obtain ⟨k, x, a, c, d, hkL, hk3, rfl, rfl, HS, HB⟩ := hrel
    by_cases hkl : k < L.length
    · by_cases hk30 : k < 30
      · have HKL := Lib.hid hkl
        have HK30 := Lib.hid hk30
        have kb : decide ((k : Int) < (L.length : Int)) = true := decide_eq_true (by omega)
        have k3 : decide ((k : Int) < 30) = true := decide_eq_true (by omega)
        have ki : (k : Int) < (L.length : Int) := by omega
        have kz : (0 : Int) ≤ (k : Int) := by omega
        have k30 : (k : Int) < 30 := by omega
        obtain ⟨b, off, hae, ⟨d0, d1, d2, d3, d4, d5⟩, hok⟩ := (HL.out _ HB.out).at hkl
        subst hae
        obtain ⟨⟨⟨qn, qr, qps, qf, qw, qk⟩, qv⟩, hq⟩ : ∃ q, q = L.getD k zeroAskv := ⟨_, rfl⟩
        rw [← hq] at d0 d1 d2 d3 d4 d5 hok
        dsimp only at d0 d1 d2 d3 d4 d5
        have HQ := Lib.hid hok
        have HQB := Lib.hid (fun wx (h : Below w.heap.size w wx) => by obtain ⟨b', o', _, _, g⟩ := (HL.out wx h).at hkl; rw [← hq] at g; exact g)
        clear hq hok hkl hk30
        obtain ⟨c0, c1, c2, c3, c4, c5⟩ := six_cells (HS.out.blk)
        go_upto_if 52 with (first | (refine wpList_store_blk (by rfl) 37 (.tmp 11) (.tmp 48) rfl wr.heap.size #[.int .i64 qn, .string qr, qv, .int .i64 qf, .bool qw, .int .i64 qk] rfl rfl (old := _) (heap_alloc_new _ _) (by kernel_rfl) rfl (by simp [Value.oneCell']; exact rd_one HQ.out.ps) ?_; intro w3 ga ua; have hb3 := below_upd ((Below.refl wr.heap.size wr).alloc (Nat.le_refl _) _) ua (Nat.le_refl _) (by simp); have HB3 := Lib.hid (HB.out.trans (hb3.mono HB.out.size)); have HS3 := Lib.hid (HS.out.below hb3); have HA3 := Lib.hid ga; clear ua hb3 c0 c1 c2 c3 c4 c5; obtain ⟨c0, c1, c2, c3, c4, c5⟩ := six_cells (HS3.out.blk)) | (refine wpList_store_blk (by rfl) 28 (.tmp 12) (.tmp 50) rfl w3.heap.size #[.int .i64 x.seen.1, .string x.seen.2] rfl rfl (old := _) (heap_alloc_new _ _) (by kernel_rfl) rfl (by simp [Value.oneCell']) ?_; intro w4 gh uh; have hb4 := below_upd ((Below.refl w3.heap.size w3).alloc (Nat.le_refl _) _) uh (Nat.le_refl _) (by simp); have HB4 := Lib.hid (HB3.out.trans (hb4.mono HB3.out.size)); have HS4 := Lib.hid (HS3.out.below hb4); have HA4 := Lib.hid (blk_below HA3.out hb4); have HH4 := Lib.hid gh; clear uh hb4 ga gh c0 c1 c2 c3 c4 c5; obtain ⟨c0, c1, c2, c3, c4, c5⟩ := six_cells (HS4.out.blk); obtain ⟨e0, e1, e2, e3, e4, e5⟩ := six_cells (HA4.out); obtain ⟨f0, f1, fz0, fz1⟩ := cell_of_two (HH4.out)))
        clear d0 d1 d2 d3 d4 d5
        obtain ⟨gA, hgA⟩ : ∃ gA, gA = wr.heap.size := ⟨_, rfl⟩
        obtain ⟨gH, hgH⟩ : ∃ gH, gH = w3.heap.size := ⟨_, rfl⟩
        rw [← hgA] at HA3 HA4 e0 e1 e2 e3 e4 e5 ⊢
        rw [← hgH] at HH4 f0 f1 fz0 fz1 ⊢
        have HLA := Lib.hid (show gW < gA by rw [hgA]; exact (Array.getElem?_eq_some_iff.1 HS.out.blk).1)
        have HLH := Lib.hid (show gA < gH by rw [hgH]; exact (Array.getElem?_eq_some_iff.1 HA3.out).1)
        clear hgA hgH HA3
        go_cut [9] (fun s9 wc => ∃ (x2 : Wit) (a2 : Option Addr) (cc : Nat) (d2 : Bool), s9 = .bool d2 ∧ Hid (WitAt wc w.heap.size gW x2 a2 cc r key) ∧ Hid (wc.heap[gA]? = some (.cells #[.int .i64 qn, .string qr, qv, .int .i64 qf, .bool qw, .int .i64 qk] 37 (0, 0))) ∧ Hid (∃ n0 r0, wc.heap[gH]? = some (.cells #[.int .i64 n0, .string r0] 28 (0, 0))) ∧ Hid (Below w.heap.size w wc))
        case first =>
          cases d with
          | true =>
            go_wp2_with fail
            go_meet
            exact ⟨x, a, c, true, rfl, HS4, HA4, Lib.hid ⟨_, _, HH4.out⟩, HB4⟩
          | false =>
            obtain ⟨fz, hfz⟩ : ∃ fz, fz = max qf (-1) := ⟨_, rfl⟩
            have hmx : max qf (-1) = fz := hfz.symm
            have HFZ := Lib.hid (show -9223372036854775808 ≤ fz ∧ fz ≤ 9223372036854775807 by have h : -9223372036854775808 ≤ qf ∧ qf ≤ 9223372036854775807 := HQ.out.fuse; omega)
            obtain ⟨X, hX⟩ : ∃ X, w4.setCell ⟨gW, 3, none⟩ (.int .i64 fz) = X := ⟨_, rfl⟩
            have uX : Upd (· = gW) w4 X := by rw [← hX]; exact (Upd.refl (· = gW) _).setCell (a := ⟨gW, 3, none⟩) (.inl rfl) _
            have gX : X.heap[gW]? = some (.cells #[.int .i64 x.who, .string x.key, .slice a x.disk.files.length c, .int .i64 fz, .int .i64 x.seen.1, .string x.seen.2] 30 (0, 0)) := by rw [← hX]; exact cells_setCell HS4.out.blk 3 _
            have z3 : w4.frozen? ⟨gW, 3, none⟩ = false := by simp [World.frozen?, HS4.out.blk]
            have hne : (92 : TypeId) ≠ 30 := by decide
            have oX := owns_upd HS4.out.own uX (fun k hk e => owns_ne (e := 92) (t := 30) HS4.out.own HS4.out.blk hne (e ▸ hk))
            have HOX := Lib.hid oX
            have hbX := below_upd HB4.out uX HGW.out HB4.out.size
            have HBX := Lib.hid hbX
            have HAX := Lib.hid (blk_upd HA4.out uX (by have := HLA.out; omega))
            have HHX := Lib.hid (blk_upd HH4.out uX (by have := HLA.out; have := HLH.out; omega))
            have HGX := Lib.hid gX
            have hok : WitOk ⟨x.who, x.key, ⟨x.disk.files, fz⟩, x.seen⟩ := ⟨HS4.out.ok.good, HS4.out.ok.kept⟩
            have HOK := Lib.hid hok
            have hmo := mark_ok hok (qn, qr) qps
            have hmf := mark_fz ⟨x.who, x.key, ⟨x.disk.files, fz⟩, x.seen⟩ (qn, qr) qps
            have hmk : Calls Tryd.prog 7 #[.agg #[.int .i64 x.who, .string x.key, .slice a x.disk.files.length c, .int .i64 fz, .int .i64 x.seen.1, .string x.seen.2], .agg #[.int .i64 qn, .string qr], qv] X (RetW X (.slice a x.disk.files.length c) x.disk.files (markW ⟨x.who, x.key, ⟨x.disk.files, fz⟩, x.seen⟩ (qn, qr) qps)) :=
              markN_any ⟨x.who, x.key, ⟨x.disk.files, fz⟩, x.seen⟩ (qn, qr) qps (.slice a x.disk.files.length c) qv X (rdF_owns oX) HFZ.out (HQB.out _ hbX).ps HQ.out.sm (by show x.key.size ≤ _; rw [HS4.out.key]; exact HKS.out) (by show x.seen.2.size ≤ _; rw [HS4.out.ok.size]; decide) (HT.out _ hbX)
            obtain ⟨⟨⟨zw, zk, zd, zs⟩, ⟨m1, m2⟩, e⟩, hq⟩ : ∃ p, p = markW ⟨x.who, x.key, ⟨x.disk.files, fz⟩, x.seen⟩ (qn, qr) qps := ⟨_, rfl⟩
            rw [← hq] at hmo hmf hmk
            unfold RetW at hmk
            dsimp only at hmo hmf hmk
            obtain ⟨hzo, hzw, hzk, hbad, hgood⟩ := hmo
            subst hzw hzk
            have HZO := Lib.hid hzo
            have HZF := Lib.hid (hmf.in HFZ.out)
            have HMK := Lib.hid hmk
            clear hmk hmf hq hzo hok gX hbX oX uX hfz hne
            by_cases he : e = 0
            · subst he
              obtain ⟨hzs, hgg, hfo, hme⟩ := hgood rfl
              subst hzs
              have HMK := Lib.hid (by have h := HMK.out; dsimp only at h; exact h)
              rw [HS4.out.who, HS4.out.key] at hme
              have HME := Lib.hid hme
              obtain ⟨hf1, hf2⟩ := fol_zero hfo
              dsimp only at hf1 hf2
              have HF1 := Lib.hid hf1
              have HF2 := Lib.hid hf2
              clear hbad hgood hgg hfo hme hf1 hf2
              have hhm := fun wr (h : Below w.heap.size w wr) => markHd_any r key qn qr wr HKS.out (HT.out _ h)
              rw [HME.out] at hhm
              have HHM := Lib.hid hhm
              clear hhm
              obtain ⟨xx0, xx1, xx2, xx3, xx4, xx5⟩ := six_cells (HGX.out)
              obtain ⟨xy0, xy1, xy2, xy3, xy4, xy5⟩ := six_cells (HAX.out)
              obtain ⟨xz0, xz1, xzz0, xzz1⟩ := cell_of_two (HHX.out)
              go_wp2_with fail
              (with_reducible refine HMK.out.mono ?_)
              rintro en w5 ⟨v5, rfl, hb, hnw⟩
              have how := hnw.owned (owns_below HOX.out hb) HBX.out.size
              clear hnw
              obtain ⟨a5, cv, rfl⟩ := owns_slice how
              have HO5 := Lib.hid how
              have HB5 := Lib.hid (HBX.out.trans (hb.mono HBX.out.size))
              have HA5 := Lib.hid (blk_below HAX.out hb)
              have HH5 := Lib.hid (blk_below HHX.out hb)
              have HG5 := Lib.hid (blk_below HGX.out hb)
              clear hb how hX hmx z3 HMK c0 c1 c2 c3 c4 c5 e0 e1 e2 e3 e4 e5 f0 f1 fz0 fz1 xx0 xx1 xx2 xx3 xx4 xx5 xy0 xy1 xy2 xy3 xy4 xy5 xz0 xz1 xzz0 xzz1
              obtain ⟨c0, c1, c2, c3, c4, c5⟩ := six_cells (HG5.out)
              obtain ⟨e0, e1, e2, e3, e4, e5⟩ := six_cells (HA5.out)
              obtain ⟨f0, f1, fz0, fz1⟩ := cell_of_two (HH5.out)
              go_wp2_with (first | (refine wpList_store_blk (by rfl) 30 (.tmp 13) (.tmp 65) rfl w5.heap.size #[.int .i64 x.who, .string x.key, .slice a5 zd.files.length cv, .int .i64 zd.fuse, .int .i64 qn, .string qr] rfl rfl (old := _) (heap_old (heap_alloc_new _ _)) (by kernel_rfl) rfl (by simp [Value.oneCell']) ?_; intro w6 g6 uu) | (refine wpList_store_blk (by rfl) 39 (.tmp 14) (.tmp 66) rfl (w5.heap.size + 1) #[.int .i64 m1, .string m2] rfl rfl (old := _) (blk_upd (heap_new (by simp)) uu (by omega)) (by kernel_rfl) rfl (by simp [Value.oneCell']) ?_; intro w7 g7 uv; have hb7 := below_upd (below_upd (((Below.refl w5.heap.size w5).alloc (Nat.le_refl _) _).alloc (by simp) _) uu (by omega) (by simp <;> omega)) uv (by omega) (Nat.le_trans (by simp <;> omega) uu.size); have HB7 := Lib.hid (HB5.out.trans (hb7.mono HB5.out.size)); have HO7 := Lib.hid (owns_below HO5.out hb7); have HA7 := Lib.hid (blk_below HA5.out hb7); have HH7 := Lib.hid (blk_below HH5.out hb7); have HG7 := Lib.hid (blk_below HG5.out hb7); have g6 := blk_upd g6 uv (by omega); have HZ7 := Lib.hid g6; have HM7 := Lib.hid g7; clear hb7 uu uv c0 c1 c2 c3 c4 c5 e0 e1 e2 e3 e4 e5 f0 f1 fz0 fz1; obtain ⟨c0, c1, c2, c3, c4, c5⟩ := six_cells (HG7.out); obtain ⟨e0, e1, e2, e3, e4, e5⟩ := six_cells (HA7.out); obtain ⟨f0, f1, fz0, fz1⟩ := cell_of_two (HH7.out); obtain ⟨g0, g1, g2, g3, g4, g5⟩ := six_cells (g6); obtain ⟨i0, i1, iz0, iz1⟩ := cell_of_two (g7)))
              (with_reducible refine (HHM.out _ HB7.out).mono ?_)
              rintro en w8 ⟨rfl, hb⟩
              have HB8 := Lib.hid (HB7.out.trans (hb.mono HB7.out.size))
              have HO8 := Lib.hid (owns_below HO7.out hb)
              have HA8 := Lib.hid (blk_below HA7.out hb)
              have HH8 := Lib.hid (blk_below HH7.out hb)
              have HG8 := Lib.hid (blk_below HG7.out hb)
              have HZ8 := Lib.hid (blk_below HZ7.out hb)
              have HM8 := Lib.hid (blk_below HM7.out hb)
              clear hb g6 g7 c0 c1 c2 c3 c4 c5 e0 e1 e2 e3 e4 e5 f0 f1 fz0 fz1 g0 g1 g2 g3 g4 g5 i0 i1 iz0 iz1
              have l0 : decide (qn < x.seen.1) = false := decide_eq_false (by have := HF1.out; omega)
              have l1 : decide (x.seen.1 ≤ qn) = true := decide_eq_true (by have := HF1.out; omega)
              by_cases hsame : qn = x.seen.1 ∧ qr = x.seen.2
              · obtain ⟨rfl, rfl⟩ := hsame
                go_upto_region 18 with (refine wpList_store_blk (by rfl) 39 (.tmp 16) (.tmp 85) rfl w8.heap.size #[.int .i64 m1, .string m2] rfl rfl (old := _) (heap_alloc_new _ _) (by kernel_rfl) rfl (by simp [Value.oneCell']) ?_; intro w9 gk uk; have hb9 := below_upd ((Below.refl w8.heap.size w8).alloc (Nat.le_refl _) _) uk (Nat.le_refl _) (by simp); have HB9 := Lib.hid (HB8.out.trans (hb9.mono HB8.out.size)); have HO9 := Lib.hid (owns_below HO8.out hb9); have HA9 := Lib.hid (blk_below HA8.out hb9); have HH9 := Lib.hid (blk_below HH8.out hb9); have HG9 := Lib.hid (blk_below HG8.out hb9); have HZ9 := Lib.hid (blk_below HZ8.out hb9); have HM9 := Lib.hid (blk_below HM8.out hb9); have HK9 := Lib.hid gk; clear uk hb9; obtain ⟨c0, c1, c2, c3, c4, c5⟩ := six_cells (HG9.out); obtain ⟨e0, e1, e2, e3, e4, e5⟩ := six_cells (HA9.out); obtain ⟨f0, f1, fz0, fz1⟩ := cell_of_two (HH9.out); obtain ⟨g0, g1, g2, g3, g4, g5⟩ := six_cells (HZ9.out); obtain ⟨i0, i1, iz0, iz1⟩ := cell_of_two (HM9.out); obtain ⟨j0, j1, jz0, jz1⟩ := cell_of_two (gk))
                go_upto_region 21 with fail
                go_wp2_with (refine wpList_store_blk (by rfl) 30 (.tmp 7) (.tmp 132) rfl gW #[.int .i64 x.who, .string x.key, .slice a5 zd.files.length cv, .int .i64 zd.fuse, .int .i64 x.seen.1, .string x.seen.2] rfl rfl (old := _) HG9.out (by kernel_rfl) rfl (by simp [Value.oneCell']) ?_; intro w10 gt ut; have HBE := Lib.hid (below_upd HB9.out ut HGW.out HB9.out.size); have HAE := Lib.hid (blk_upd HA9.out ut (by have := HLA.out; omega)); have HHE := Lib.hid (⟨_, _, blk_upd HH9.out ut (by have := HLA.out; have := HLH.out; omega)⟩ : ∃ n0 r0, w10.heap[gH]? = some (.cells #[.int .i64 n0, .string r0] 28 (0, 0))); have HSE := Lib.hid (show WitAt w10 w.heap.size gW ⟨x.who, x.key, zd, (x.seen.1, x.seen.2)⟩ a5 cv r key from ⟨gt, owns_upd HO9.out ut (fun k hk e => owns_ne (e := 92) (t := 30) HO9.out HG9.out (by decide) (e ▸ hk)), HZO.out, HS4.out.who, HS4.out.key, HZF.out⟩))
                go_meet
                exact ⟨⟨x.who, x.key, zd, (x.seen.1, x.seen.2)⟩, a5, cv, _, rfl, HSE, HAE, HHE, HBE⟩
              · have hext := HF2.out.resolve_left hsame
                by_cases hn : qn = x.seen.1
                · subst hn
                  have s1 : (qr.toList == x.seen.2.toList) = false := beq_no (fun k => hsame ⟨rfl, k⟩)
                  clear hsame
                  have hex := fun wr (h : Below w.heap.size w wr) => extends_any x.seen.2 qr x.seen.1 x.seen.1 qps qv wr (by rw [HS4.out.ok.size]; decide) (HQB.out _ h).ps HQ.out.sm (HT.out _ h)
                  rw [hext] at hex
                  have HEX := Lib.hid hex
                  clear hex hext
                  go_upto_region 18 with (refine wpList_store_blk (by rfl) 39 (.tmp 16) (.tmp 85) rfl w8.heap.size #[.int .i64 m1, .string m2] rfl rfl (old := _) (heap_alloc_new _ _) (by kernel_rfl) rfl (by simp [Value.oneCell']) ?_; intro w9 gk uk; have hb9 := below_upd ((Below.refl w8.heap.size w8).alloc (Nat.le_refl _) _) uk (Nat.le_refl _) (by simp); have HB9 := Lib.hid (HB8.out.trans (hb9.mono HB8.out.size)); have HO9 := Lib.hid (owns_below HO8.out hb9); have HA9 := Lib.hid (blk_below HA8.out hb9); have HH9 := Lib.hid (blk_below HH8.out hb9); have HG9 := Lib.hid (blk_below HG8.out hb9); have HZ9 := Lib.hid (blk_below HZ8.out hb9); have HM9 := Lib.hid (blk_below HM8.out hb9); have HK9 := Lib.hid gk; clear uk hb9; obtain ⟨c0, c1, c2, c3, c4, c5⟩ := six_cells (HG9.out); obtain ⟨e0, e1, e2, e3, e4, e5⟩ := six_cells (HA9.out); obtain ⟨f0, f1, fz0, fz1⟩ := cell_of_two (HH9.out); obtain ⟨g0, g1, g2, g3, g4, g5⟩ := six_cells (HZ9.out); obtain ⟨i0, i1, iz0, iz1⟩ := cell_of_two (HM9.out); obtain ⟨j0, j1, jz0, jz1⟩ := cell_of_two (gk))
                  go_wp2_with fail
                  (with_reducible refine (HEX.out _ HB9.out).mono ?_)
                  rintro en wB ⟨rfl, hb⟩
                  have HBB := Lib.hid (HB9.out.trans (hb.mono HB9.out.size))
                  have HOB := Lib.hid (owns_below HO9.out hb)
                  have HAB := Lib.hid (blk_below HA9.out hb)
                  have HHB := Lib.hid (blk_below HH9.out hb)
                  have HGB := Lib.hid (blk_below HG9.out hb)
                  have HZB := Lib.hid (blk_below HZ9.out hb)
                  have HMB := Lib.hid (blk_below HM9.out hb)
                  have HKB := Lib.hid (blk_below HK9.out hb)
                  clear hb gk c0 c1 c2 c3 c4 c5 e0 e1 e2 e3 e4 e5 f0 f1 fz0 fz1 g0 g1 g2 g3 g4 g5 i0 i1 iz0 iz1 j0 j1 jz0 jz1
                  obtain ⟨c0, c1, c2, c3, c4, c5⟩ := six_cells (HGB.out)
                  obtain ⟨e0, e1, e2, e3, e4, e5⟩ := six_cells (HAB.out)
                  obtain ⟨f0, f1, fz0, fz1⟩ := cell_of_two (HHB.out)
                  obtain ⟨g0, g1, g2, g3, g4, g5⟩ := six_cells (HZB.out)
                  obtain ⟨i0, i1, iz0, iz1⟩ := cell_of_two (HMB.out)
                  obtain ⟨j0, j1, jz0, jz1⟩ := cell_of_two (HKB.out)
                  go_upto_region 21 with fail
                  go_wp2_with (refine wpList_store_blk (by rfl) 30 (.tmp 7) (.tmp 132) rfl gW #[.int .i64 x.who, .string x.key, .slice a5 zd.files.length cv, .int .i64 zd.fuse, .int .i64 x.seen.1, .string qr] rfl rfl (old := _) HGB.out (by kernel_rfl) rfl (by simp [Value.oneCell']) ?_; intro w10 gt ut; have HBE := Lib.hid (below_upd HBB.out ut HGW.out HBB.out.size); have HAE := Lib.hid (blk_upd HAB.out ut (by have := HLA.out; omega)); have HHE := Lib.hid (⟨_, _, blk_upd HHB.out ut (by have := HLA.out; have := HLH.out; omega)⟩ : ∃ n0 r0, w10.heap[gH]? = some (.cells #[.int .i64 n0, .string r0] 28 (0, 0))); have HSE := Lib.hid (show WitAt w10 w.heap.size gW ⟨x.who, x.key, zd, (x.seen.1, qr)⟩ a5 cv r key from ⟨gt, owns_upd HOB.out ut (fun k hk e => owns_ne (e := 92) (t := 30) HOB.out HGB.out (by decide) (e ▸ hk)), HZO.out, HS4.out.who, HS4.out.key, HZF.out⟩))
                  go_meet
                  exact ⟨⟨x.who, x.key, zd, (x.seen.1, qr)⟩, a5, cv, _, rfl, HSE, HAE, HHE, HBE⟩
                · have n1 : (qn == x.seen.1) = false := beq_eq_false_iff_ne.2 hn
                  clear hsame hn
                  have hex := fun wr (h : Below w.heap.size w wr) => extends_any x.seen.2 qr x.seen.1 qn qps qv wr (by rw [HS4.out.ok.size]; decide) (HQB.out _ h).ps HQ.out.sm (HT.out _ h)
                  rw [hext] at hex
                  have HEX := Lib.hid hex
                  clear hex hext
                  go_upto_region 18 with (refine wpList_store_blk (by rfl) 39 (.tmp 16) (.tmp 85) rfl w8.heap.size #[.int .i64 m1, .string m2] rfl rfl (old := _) (heap_alloc_new _ _) (by kernel_rfl) rfl (by simp [Value.oneCell']) ?_; intro w9 gk uk; have hb9 := below_upd ((Below.refl w8.heap.size w8).alloc (Nat.le_refl _) _) uk (Nat.le_refl _) (by simp); have HB9 := Lib.hid (HB8.out.trans (hb9.mono HB8.out.size)); have HO9 := Lib.hid (owns_below HO8.out hb9); have HA9 := Lib.hid (blk_below HA8.out hb9); have HH9 := Lib.hid (blk_below HH8.out hb9); have HG9 := Lib.hid (blk_below HG8.out hb9); have HZ9 := Lib.hid (blk_below HZ8.out hb9); have HM9 := Lib.hid (blk_below HM8.out hb9); have HK9 := Lib.hid gk; clear uk hb9; obtain ⟨c0, c1, c2, c3, c4, c5⟩ := six_cells (HG9.out); obtain ⟨e0, e1, e2, e3, e4, e5⟩ := six_cells (HA9.out); obtain ⟨f0, f1, fz0, fz1⟩ := cell_of_two (HH9.out); obtain ⟨g0, g1, g2, g3, g4, g5⟩ := six_cells (HZ9.out); obtain ⟨i0, i1, iz0, iz1⟩ := cell_of_two (HM9.out); obtain ⟨j0, j1, jz0, jz1⟩ := cell_of_two (gk))
                  go_wp2_with fail
                  (with_reducible refine (HEX.out _ HB9.out).mono ?_)
                  rintro en wB ⟨rfl, hb⟩
                  have HBB := Lib.hid (HB9.out.trans (hb.mono HB9.out.size))
                  have HOB := Lib.hid (owns_below HO9.out hb)
                  have HAB := Lib.hid (blk_below HA9.out hb)
                  have HHB := Lib.hid (blk_below HH9.out hb)
                  have HGB := Lib.hid (blk_below HG9.out hb)
                  have HZB := Lib.hid (blk_below HZ9.out hb)
                  have HMB := Lib.hid (blk_below HM9.out hb)
                  have HKB := Lib.hid (blk_below HK9.out hb)
                  clear hb gk c0 c1 c2 c3 c4 c5 e0 e1 e2 e3 e4 e5 f0 f1 fz0 fz1 g0 g1 g2 g3 g4 g5 i0 i1 iz0 iz1 j0 j1 jz0 jz1
                  obtain ⟨c0, c1, c2, c3, c4, c5⟩ := six_cells (HGB.out)
                  obtain ⟨e0, e1, e2, e3, e4, e5⟩ := six_cells (HAB.out)
                  obtain ⟨f0, f1, fz0, fz1⟩ := cell_of_two (HHB.out)
                  obtain ⟨g0, g1, g2, g3, g4, g5⟩ := six_cells (HZB.out)
                  obtain ⟨i0, i1, iz0, iz1⟩ := cell_of_two (HMB.out)
                  obtain ⟨j0, j1, jz0, jz1⟩ := cell_of_two (HKB.out)
                  go_upto_region 21 with fail
                  go_wp2_with (refine wpList_store_blk (by rfl) 30 (.tmp 7) (.tmp 132) rfl gW #[.int .i64 x.who, .string x.key, .slice a5 zd.files.length cv, .int .i64 zd.fuse, .int .i64 qn, .string qr] rfl rfl (old := _) HGB.out (by kernel_rfl) rfl (by simp [Value.oneCell']) ?_; intro w10 gt ut; have HBE := Lib.hid (below_upd HBB.out ut HGW.out HBB.out.size); have HAE := Lib.hid (blk_upd HAB.out ut (by have := HLA.out; omega)); have HHE := Lib.hid (⟨_, _, blk_upd HHB.out ut (by have := HLA.out; have := HLH.out; omega)⟩ : ∃ n0 r0, w10.heap[gH]? = some (.cells #[.int .i64 n0, .string r0] 28 (0, 0))); have HSE := Lib.hid (show WitAt w10 w.heap.size gW ⟨x.who, x.key, zd, (qn, qr)⟩ a5 cv r key from ⟨gt, owns_upd HOB.out ut (fun k hk e => owns_ne (e := 92) (t := 30) HOB.out HGB.out (by decide) (e ▸ hk)), HZO.out, HS4.out.who, HS4.out.key, HZF.out⟩))
                  go_meet
                  exact ⟨⟨x.who, x.key, zd, (qn, qr)⟩, a5, cv, _, rfl, HSE, HAE, HHE, HBE⟩
            · obtain ⟨hzs, hm0⟩ := hbad he
              have hm0 : ((m1, m2) : Hed) = (0, (⟨#[]⟩ : ByteArray)) := hm0
              injection hm0 with hm1 hm2
              subst hzs hm1 hm2
              have n1 : (e == 0) = false := beq_eq_false_iff_ne.2 he
              have n2 : (e != 0) = true := by rw [bne, n1]; rfl
              clear hbad hgood he
              obtain ⟨xx0, xx1, xx2, xx3, xx4, xx5⟩ := six_cells (HGX.out)
              obtain ⟨xy0, xy1, xy2, xy3, xy4, xy5⟩ := six_cells (HAX.out)
              obtain ⟨xz0, xz1, xzz0, xzz1⟩ := cell_of_two (HHX.out)
              go_wp2_with fail
              (with_reducible refine HMK.out.mono ?_)
              rintro en w5 ⟨v5, rfl, hb, hnw⟩
              have how := hnw.owned (owns_below HOX.out hb) HBX.out.size
              clear hnw
              obtain ⟨a5, cv, rfl⟩ := owns_slice how
              have HO5 := Lib.hid how
              have HB5 := Lib.hid (HBX.out.trans (hb.mono HBX.out.size))
              have HA5 := Lib.hid (blk_below HAX.out hb)
              have HH5 := Lib.hid (blk_below HHX.out hb)
              have HG5 := Lib.hid (blk_below HGX.out hb)
              clear hb how hX hmx z3 HMK c0 c1 c2 c3 c4 c5 e0 e1 e2 e3 e4 e5 f0 f1 fz0 fz1 xx0 xx1 xx2 xx3 xx4 xx5 xy0 xy1 xy2 xy3 xy4 xy5 xz0 xz1 xzz0 xzz1
              obtain ⟨c0, c1, c2, c3, c4, c5⟩ := six_cells (HG5.out)
              obtain ⟨e0, e1, e2, e3, e4, e5⟩ := six_cells (HA5.out)
              obtain ⟨f0, f1, fz0, fz1⟩ := cell_of_two (HH5.out)
              go_wp2_with (first | (refine wpList_store_blk (by rfl) 30 (.tmp 13) (.tmp 65) rfl w5.heap.size #[.int .i64 x.who, .string x.key, .slice a5 zd.files.length cv, .int .i64 zd.fuse, .int .i64 x.seen.1, .string x.seen.2] rfl rfl (old := _) (heap_old (heap_alloc_new _ _)) (by kernel_rfl) rfl (by simp [Value.oneCell']) ?_; intro w6 g6 uu) | (refine wpList_store_blk (by rfl) 39 (.tmp 14) (.tmp 66) rfl (w5.heap.size + 1) #[.int .i64 0, .string ⟨#[]⟩] rfl rfl (old := _) (blk_upd (heap_new (by simp)) uu (by omega)) (by kernel_rfl) rfl (by simp [Value.oneCell']) ?_; intro w7 g7 uv; have hb7 := below_upd (below_upd (((Below.refl w5.heap.size w5).alloc (Nat.le_refl _) _).alloc (by simp) _) uu (by omega) (by simp <;> omega)) uv (by omega) (Nat.le_trans (by simp <;> omega) uu.size); have HB7 := Lib.hid (HB5.out.trans (hb7.mono HB5.out.size)); have HO7 := Lib.hid (owns_below HO5.out hb7); have HA7 := Lib.hid (blk_below HA5.out hb7); have HH7 := Lib.hid (blk_below HH5.out hb7); have HG7 := Lib.hid (blk_below HG5.out hb7); have g6 := blk_upd g6 uv (by omega); clear hb7 uu uv c0 c1 c2 c3 c4 c5 e0 e1 e2 e3 e4 e5 f0 f1 fz0 fz1; obtain ⟨c0, c1, c2, c3, c4, c5⟩ := six_cells (HG7.out); obtain ⟨e0, e1, e2, e3, e4, e5⟩ := six_cells (HA7.out); obtain ⟨f0, f1, fz0, fz1⟩ := cell_of_two (HH7.out); obtain ⟨g0, g1, g2, g3, g4, g5⟩ := six_cells (g6); obtain ⟨i0, i1, iz0, iz1⟩ := cell_of_two (g7)) | (refine wpList_store_blk (by rfl) 30 (.tmp 7) (.tmp 132) rfl gW #[.int .i64 x.who, .string x.key, .slice a5 zd.files.length cv, .int .i64 zd.fuse, .int .i64 x.seen.1, .string x.seen.2] rfl rfl (old := _) HG7.out (by kernel_rfl) rfl (by simp [Value.oneCell']) ?_; intro w8 g8 uw; have HBE := Lib.hid (below_upd HB7.out uw HGW.out HB7.out.size); have HAE := Lib.hid (blk_upd HA7.out uw (by have := HLA.out; omega)); have HHE := Lib.hid (⟨_, _, blk_upd HH7.out uw (by have := HLA.out; have := HLH.out; omega)⟩ : ∃ n0 r0, w8.heap[gH]? = some (.cells #[.int .i64 n0, .string r0] 28 (0, 0))); have HSE := Lib.hid (show WitAt w8 w.heap.size gW ⟨x.who, x.key, zd, x.seen⟩ a5 cv r key from ⟨g8, owns_upd HO7.out uw (fun k hk e => owns_ne (e := 92) (t := 30) HO7.out HG7.out (by decide) (e ▸ hk)), HZO.out, HS4.out.who, HS4.out.key, HZF.out⟩)))
              go_meet
              exact ⟨⟨x.who, x.key, zd, x.seen⟩, a5, cv, _, rfl, HSE, HAE, HHE, HBE⟩
        case rest =>
          obtain ⟨x2, a2, cc, d2, rfl, HSc, HAc, HHc, HBc⟩ := hcut
          obtain ⟨n0, r0, hHc⟩ := HHc.out
          have HHc := Lib.hid hHc
          clear hHc HB3 HS3 HB4 HS4 HA4 HH4 c0 c1 c2 c3 c4 c5 e0 e1 e2 e3 e4 e5 f0 f1 fz0 fz1
          obtain ⟨c0, c1, c2_, c3_, c4, c5⟩ := six_cells (HSc.out.blk)
          go_upto_region 23 with (refine wpList_store_blk (by rfl) 28 (.tmp 12) (.tmp 136) rfl gH #[.int .i64 x2.seen.1, .string x2.seen.2] rfl rfl (old := _) HHc.out (by kernel_rfl) rfl (by simp [Value.oneCell']) ?_; intro wd gd ud; have hlg := HLH.out; have hla := HLA.out; have hgW : w.heap.size ≤ gH := (by have := HGW.out; omega); have HBd := Lib.hid (below_upd HBc.out ud hgW HBc.out.size); have HAd := Lib.hid (blk_upd HAc.out ud (by omega)); have HSd := Lib.hid (show WitAt wd w.heap.size gW x2 a2 cc r key from ⟨blk_upd HSc.out.blk ud (by omega), owns_upd HSc.out.own ud (fun k hk e => owns_ne (e := 92) (t := 28) HSc.out.own HHc.out (by decide) (e ▸ hk)), HSc.out.ok, HSc.out.who, HSc.out.key, HSc.out.fuse⟩); have HHd := Lib.hid gd; clear gd ud hlg hla hgW c0 c1 c2_ c3_ c4 c5; obtain ⟨c0, c1, c2_, c3_, c4, c5⟩ := six_cells (HSd.out.blk); obtain ⟨e0, e1, e2, e3, e4, e5⟩ := six_cells (HAd.out); obtain ⟨f0, f1, fz0, fz1⟩ := cell_of_two (HHd.out))
          clear HSc HAc HHc HBc
          cases qw <;> cases d2
          case false.false =>
            go_wp2_with fail
            exact ⟨⟨k + 1, x2, a2, cc, false, HKL.out, HK30.out, rfl, rfl, HSd, HBd⟩, meas_step (n := 30) _ rfl HK30.out⟩
          all_goals (
            go_upto_region 24 with fail
            go_cut [19, 20] (fun s19 s20 wx => ∃ (g : Nat) (zd : Dsk) (a3 : Option Addr) (c3 : Nat), s19 = .pointer (some ⟨g, 0, none⟩) ∧ s20 = .int .i64 0 ∧ Hid (wx.heap[g]? = some (.cells #[.int .i64 x2.who, .string x2.key, .slice a3 zd.files.length c3, .int .i64 zd.fuse, .int .i64 x2.seen.1, .string x2.seen.2] 30 (0, 0))) ∧ Hid (wx.ownsRow w.heap.size 92 3 (.slice a3 zd.files.length c3) zd.files.length (fvs zd.files)) ∧ Hid (WitOk ⟨x2.who, x2.key, zd, x2.seen⟩ ∧ zd.fuse = -1) ∧ Hid (WitAt wx w.heap.size gW x2 a2 cc r key) ∧ Hid (wx.heap[gH]? = some (.cells #[.int .i64 x2.seen.1, .string x2.seen.2] 28 (0, 0))) ∧ Hid (Below w.heap.size w wx))
            case first =>
              obtain ⟨keep, hkeep⟩ : ∃ keep, keep = qk % 1000 := ⟨_, rfl⟩
              have hk0 : 0 ≤ keep ∧ keep < 1000 := by rw [hkeep]; omega
              have hpk := fun wr => pick1000 qk wr HQ.out.keep
              rw [← hkeep] at hpk
              have HPK := Lib.hid hpk
              have HKR := Lib.hid (show -9223372036854775808 ≤ qk ∧ qk ≤ 9223372036854775807 from HQ.out.keep)
              have hwo := wake_ok HSd.out.ok hk0.1
              have hwk := fun wr (h : Below wd.heap.size wd wr) => wakeN_any x2 keep (.slice a2 x2.disk.files.length cc) wr (rdF_owns (owns_below HSd.out.own h)) (by omega) (HT.out _ (HBd.out.trans (h.mono HBd.out.size)))
              obtain ⟨⟨⟨zw, zk, zd, zs⟩, e⟩, hq⟩ : ∃ p, p = wakeW x2 keep := ⟨_, rfl⟩
              rw [← hq] at hwo hwk
              unfold RetV at hwk
              dsimp only at hwo hwk
              obtain ⟨he, hzo, hzw, hzk, hzs, hzf⟩ := hwo
              subst he hzw hzk hzs
              have HZO := Lib.hid (And.intro hzo hzf)
              have HWK0 := Lib.hid hwk
              clear hwk hzo hzf hq hkeep hpk hk0
              have hdr : Below wd.heap.size wd wd.drew := (Below.refl _ _).drew
              obtain ⟨wB, hwB⟩ : ∃ X, wd.drew = X := ⟨_, rfl⟩
              rw [hwB] at hdr
              have hsB := HSd.out.below hdr
              have haB := blk_below HAd.out hdr
              have hhB := blk_below HHd.out hdr
              have HSB := Lib.hid (fun wr (h : Below wB.heap.size wB wr) => hsB.below h)
              have HAB := Lib.hid (fun wr (h : Below wB.heap.size wB wr) => blk_below haB h)
              have HHB := Lib.hid (fun wr (h : Below wB.heap.size wB wr) => blk_below hhB h)
              have HBB := Lib.hid (HBd.out.trans (hdr.mono HBd.out.size))
              have HWK := Lib.hid (fun wr (h : Below wB.heap.size wB wr) => HWK0.out wr (hdr.trans (h.mono hdr.size)))
              have HC0 := Lib.hid (Below.refl wB.heap.size wB)
              clear hsB haB hhB hdr HWK0 c0 c1 c2_ c3_ c4 c5 e0 e1 e2 e3 e4 e5 f0 f1 fz0 fz1
              obtain ⟨c0, c1, c2_, c3_, c4, c5⟩ := six_cells (HSB.out _ HC0.out).blk
              obtain ⟨_, _, _, _, _, e5⟩ := six_cells (HAB.out _ HC0.out)
              refine Twin.wp_region_order (.q 0 (.q 1 (.q 2 (.l2 3 8 (.l2 4 8 (.q 5 (.q 6 (.q 7 (.l 8 (.l 9 (.q 10 (.nil))))))) (.l 4 (.q 5 (.q 6 (.q 7 (.l 9 (.q 10 (.nil)))))))) (.l 3 (.l 4 (.q 5 (.q 6 (.q 7 (.l 9 (.q 10 (.nil)))))))))))) (fun w' => (w'.cell? ⟨gW, 0, none⟩ = some (.int .i64 x2.who) ∧ w'.cell? ⟨gW, 1, none⟩ = some (.string x2.key) ∧ w'.cell? ⟨gW, 2, none⟩ = some (.slice a2 x2.disk.files.length cc) ∧ w'.cell? ⟨gW, 3, none⟩ = some (.int .i64 x2.disk.fuse) ∧ w'.cell? ⟨gW, 4, none⟩ = some (.int .i64 x2.seen.1) ∧ w'.cell? ⟨gW, 5, none⟩ = some (.string x2.seen.2)) ∧ w'.cell? ⟨gA, 5, none⟩ = some (.int .i64 qk)) (by kernel_rfl) (by kernel_rfl) rfl (by kernel_rfl) (by intro _ _ d _ _ h; cases d <;> exact h) (hwB ▸ ⟨⟨c0, c1, c2_, c3_, c4, c5⟩, e5⟩) ?_; simp only [Twin.Ord.opers, List.getElem?_toArray, List.getElem?_cons_zero, List.getElem?_cons_succ, Option.getD_some]
              rw [hwB]
              clear hwB
              repeat (first | (refine Twin.ro_q (by rfl) (v := ?_) ?_ ?_; rotate_left; (focus (intro w' hSw; (try dsimp only at hSw); go_simp; try with_reducible rfl)); simp only [Act.put, List.setIfInBounds_toArray, List.set_cons_zero, List.set_cons_succ]) | (refine Twin.ro_skip (by rfl) ?_; simp only [Act.put, List.setIfInBounds_toArray, List.set_cons_zero, List.set_cons_succ]))
              refine Twin.ro_two ?_ ?_
              · (refine Twin.ro_loud (by rfl) (fun K hK => ?_); go_simp)
                (with_reducible refine (HPK.out _).mono ?_)
                rintro en wz ⟨rfl, rfl⟩
                (refine hK.out _ _ (fun w' => (w'.cell? ⟨gW, 0, none⟩ = some (.int .i64 x2.who) ∧ w'.cell? ⟨gW, 1, none⟩ = some (.string x2.key) ∧ w'.cell? ⟨gW, 2, none⟩ = some (.slice a2 x2.disk.files.length cc) ∧ w'.cell? ⟨gW, 3, none⟩ = some (.int .i64 x2.disk.fuse) ∧ w'.cell? ⟨gW, 4, none⟩ = some (.int .i64 x2.seen.1) ∧ w'.cell? ⟨gW, 5, none⟩ = some (.string x2.seen.2)) ∧ w'.cell? ⟨gA, 5, none⟩ = some (.int .i64 qk)) (.inl fun _ h => h) (⟨⟨c0, c1, c2_, c3_, c4, c5⟩, e5⟩) ?_; clear hK K; try simp only [Act.put, List.setIfInBounds_toArray, List.set_cons_zero, List.set_cons_succ])
                repeat (first | (refine Twin.ro_q (by rfl) (v := ?_) ?_ ?_; rotate_left; (focus (intro w' hSw; (try dsimp only at hSw); go_simp; try with_reducible rfl)); simp only [Act.put, List.setIfInBounds_toArray, List.set_cons_zero, List.set_cons_succ]) | (refine Twin.ro_skip (by rfl) ?_; simp only [Act.put, List.setIfInBounds_toArray, List.set_cons_zero, List.set_cons_succ]))
                refine Twin.ro_two ?_ ?_
                · (refine Twin.ro_loud (by rfl) (fun K hK => ?_); go_simp)
                  (with_reducible refine (HWK.out _ HC0.out).mono ?_)
                  rintro en wk ⟨v3, rfl, hb, hnw⟩
                  have how := hnw.owned (owns_below (HSB.out _ HC0.out).own hb) (HBB.out.trans (HC0.out.mono HBB.out.size)).size
                  clear hnw
                  obtain ⟨a3, c3, rfl⟩ := owns_slice how
                  have HOW := Lib.hid how
                  have HC1 := Lib.hid (HC0.out.trans (hb.mono HC0.out.size))
                  clear hb how
                  clear c0 c1 c2_ c3_ c4 c5 e5
                  obtain ⟨c0, c1, c2_, c3_, c4, c5⟩ := six_cells (HSB.out _ HC1.out).blk
                  obtain ⟨_, _, _, _, _, e5⟩ := six_cells (HAB.out _ HC1.out)
                  (refine hK.out _ _ (fun w' => (w'.cell? ⟨gW, 0, none⟩ = some (.int .i64 x2.who) ∧ w'.cell? ⟨gW, 1, none⟩ = some (.string x2.key) ∧ w'.cell? ⟨gW, 2, none⟩ = some (.slice a2 x2.disk.files.length cc) ∧ w'.cell? ⟨gW, 3, none⟩ = some (.int .i64 x2.disk.fuse) ∧ w'.cell? ⟨gW, 4, none⟩ = some (.int .i64 x2.seen.1) ∧ w'.cell? ⟨gW, 5, none⟩ = some (.string x2.seen.2)) ∧ w'.cell? ⟨gA, 5, none⟩ = some (.int .i64 qk)) (.inl fun _ h => h) (⟨⟨c0, c1, c2_, c3_, c4, c5⟩, e5⟩) ?_; clear hK K; try simp only [Act.put, List.setIfInBounds_toArray, List.set_cons_zero, List.set_cons_succ])
                  repeat (first | (refine Twin.ro_q (by rfl) (v := ?_) ?_ ?_; rotate_left; (focus (intro w' hSw; (try dsimp only at hSw); go_simp; try with_reducible rfl)); simp only [Act.put, List.setIfInBounds_toArray, List.set_cons_zero, List.set_cons_succ]) | (refine Twin.ro_skip (by rfl) ?_; simp only [Act.put, List.setIfInBounds_toArray, List.set_cons_zero, List.set_cons_succ]))
                  (refine Twin.ro_loud (by rfl) (fun K hK => ?_); go_simp)
                  obtain ⟨wa, hwa⟩ : ∃ X, wk.alloc (.cells #[.int .i64 0, .string ⟨#[]⟩, .slice none 0 0, .int .i64 0, .int .i64 0, .string ⟨#[]⟩] 30) = X := ⟨_, rfl⟩
                  obtain ⟨g, hg⟩ : ∃ g, g = wk.heap.size := ⟨_, rfl⟩
                  have gz : wa.heap[g]? = some (.cells #[.int .i64 0, .string ⟨#[]⟩, .slice none 0 0, .int .i64 0, .int .i64 0, .string ⟨#[]⟩] 30 (0, 0)) := by rw [hg, ← hwa]; exact heap_alloc_new _ _
                  have hb : Below wk.heap.size wk wa := by rw [← hwa]; exact (Below.refl _ _).alloc (Nat.le_refl _) _
                  have hgl : g ≥ wB.heap.size := by rw [hg]; exact HC1.out.size
                  rw [← hg, hwa]
                  have HC2 := Lib.hid (HC1.out.trans (hb.mono HC1.out.size))
                  have HOW := Lib.hid (owns_below HOW.out hb)
                  clear hb hwa hg
                  clear c0 c1 c2_ c3_ c4 c5 e5
                  obtain ⟨c0, c1, c2_, c3_, c4, c5⟩ := six_cells (HSB.out _ HC2.out).blk
                  obtain ⟨_, _, _, _, _, e5⟩ := six_cells (HAB.out _ HC2.out)
                  (refine hK.out _ _ (fun w' => (w'.cell? ⟨gW, 0, none⟩ = some (.int .i64 x2.who) ∧ w'.cell? ⟨gW, 1, none⟩ = some (.string x2.key) ∧ w'.cell? ⟨gW, 2, none⟩ = some (.slice a2 x2.disk.files.length cc) ∧ w'.cell? ⟨gW, 3, none⟩ = some (.int .i64 x2.disk.fuse) ∧ w'.cell? ⟨gW, 4, none⟩ = some (.int .i64 x2.seen.1) ∧ w'.cell? ⟨gW, 5, none⟩ = some (.string x2.seen.2)) ∧ w'.cell? ⟨gA, 5, none⟩ = some (.int .i64 qk)) (.inl fun _ h => h) (⟨⟨c0, c1, c2_, c3_, c4, c5⟩, e5⟩) ?_; clear hK K; try simp only [Act.put, List.setIfInBounds_toArray, List.set_cons_zero, List.set_cons_succ])
                  repeat (first | (refine Twin.ro_q (by rfl) (v := ?_) ?_ ?_; rotate_left; (focus (intro w' hSw; (try dsimp only at hSw); go_simp; try with_reducible rfl)); simp only [Act.put, List.setIfInBounds_toArray, List.set_cons_zero, List.set_cons_succ]) | (refine Twin.ro_skip (by rfl) ?_; simp only [Act.put, List.setIfInBounds_toArray, List.set_cons_zero, List.set_cons_succ]))
                  (refine Twin.ro_loud (by rfl) (fun K hK => ?_))
                  refine wp_store_blkT 30 (.tmp 19) (.tmp 148) rfl g #[.int .i64 x2.who, .string x2.key, .slice a3 zd.files.length c3, .int .i64 zd.fuse, .int .i64 x2.seen.1, .string x2.seen.2] rfl rfl (old := _) gz (by kernel_rfl) rfl (by simp [Value.oneCell']) ?_
                  intro wS gS uS
                  have hlg := HLH.out
                  have hla := HLA.out
                  have hgB : gH < wB.heap.size := (Array.getElem?_eq_some_iff.1 (HHB.out _ HC0.out)).1
                  have hOW := owns_upd HOW.out uS (fun k hk e => owns_ne (e := 92) (t := 30) HOW.out gz (by decide) (e ▸ hk))
                  have hSS : WitAt wS w.heap.size gW x2 a2 cc r key := by have h := HSB.out _ HC2.out; exact ⟨blk_upd h.blk uS (by omega), owns_upd h.own uS (fun k hk e => owns_ne (e := 92) (t := 30) h.own gz (by decide) (e ▸ hk)), h.ok, h.who, h.key, h.fuse⟩
                  have hAS := blk_upd (HAB.out _ HC2.out) uS (by omega)
                  have hHS := blk_upd (HHB.out _ HC2.out) uS (by omega)
                  have hBS := below_upd (HBB.out.trans (HC2.out.mono HBB.out.size)) uS (by have := HBB.out.size; omega) (HBB.out.trans (HC2.out.mono HBB.out.size)).size
                  have HREL := Lib.hid (And.intro gS (And.intro hOW (And.intro hSS (And.intro hHS hBS))))
                  clear c0 c1 c2_ c3_ c4 c5 e5
                  obtain ⟨c0, c1, c2_, c3_, c4, c5⟩ := six_cells hSS.blk
                  obtain ⟨_, _, _, _, _, e5⟩ := six_cells hAS
                  clear gS uS hOW hSS hAS hHS hBS hlg hla hgB gz hgl
                  (refine hK.out _ _ (fun w' => (w'.cell? ⟨gW, 0, none⟩ = some (.int .i64 x2.who) ∧ w'.cell? ⟨gW, 1, none⟩ = some (.string x2.key) ∧ w'.cell? ⟨gW, 2, none⟩ = some (.slice a2 x2.disk.files.length cc) ∧ w'.cell? ⟨gW, 3, none⟩ = some (.int .i64 x2.disk.fuse) ∧ w'.cell? ⟨gW, 4, none⟩ = some (.int .i64 x2.seen.1) ∧ w'.cell? ⟨gW, 5, none⟩ = some (.string x2.seen.2)) ∧ w'.cell? ⟨gA, 5, none⟩ = some (.int .i64 qk)) (.inl fun _ h => h) (⟨⟨c0, c1, c2_, c3_, c4, c5⟩, e5⟩) ?_; clear hK K; try simp only [Act.put, List.setIfInBounds_toArray, List.set_cons_zero, List.set_cons_succ])
                  repeat (first | (refine Twin.ro_q (by rfl) (v := ?_) ?_ ?_; rotate_left; (focus (intro w' hSw; (try dsimp only at hSw); go_simp; try with_reducible rfl)); simp only [Act.put, List.setIfInBounds_toArray, List.set_cons_zero, List.set_cons_succ]) | (refine Twin.ro_skip (by rfl) ?_; simp only [Act.put, List.setIfInBounds_toArray, List.set_cons_zero, List.set_cons_succ]))
                  refine Twin.ro_nil ?_
                  go_wp2_with fail
                  go_meet
                  exact ⟨g, zd, a3, c3, rfl, rfl, Lib.hid HREL.out.1, Lib.hid HREL.out.2.1, HZO, Lib.hid HREL.out.2.2.1, Lib.hid HREL.out.2.2.2.1, Lib.hid HREL.out.2.2.2.2⟩
                · (refine Twin.ro_loud (by rfl) (fun K hK => ?_); go_simp)
                  obtain ⟨wa, hwa⟩ : ∃ X, wB.alloc (.cells #[.int .i64 0, .string ⟨#[]⟩, .slice none 0 0, .int .i64 0, .int .i64 0, .string ⟨#[]⟩] 30) = X := ⟨_, rfl⟩
                  obtain ⟨g, hg⟩ : ∃ g, g = wB.heap.size := ⟨_, rfl⟩
                  have gz : wa.heap[g]? = some (.cells #[.int .i64 0, .string ⟨#[]⟩, .slice none 0 0, .int .i64 0, .int .i64 0, .string ⟨#[]⟩] 30 (0, 0)) := by rw [hg, ← hwa]; exact heap_alloc_new _ _
                  have hb : Below wB.heap.size wB wa := by rw [← hwa]; exact (Below.refl _ _).alloc (Nat.le_refl _) _
                  have hgl : g ≥ wB.heap.size := by rw [hg]; exact HC0.out.size
                  rw [← hg, hwa]
                  have HC1 := Lib.hid (HC0.out.trans (hb.mono HC0.out.size))
                  clear hb hwa hg
                  clear c0 c1 c2_ c3_ c4 c5 e5
                  obtain ⟨c0, c1, c2_, c3_, c4, c5⟩ := six_cells (HSB.out _ HC1.out).blk
                  obtain ⟨_, _, _, _, _, e5⟩ := six_cells (HAB.out _ HC1.out)
                  (refine hK.out _ _ (fun w' => (w'.cell? ⟨gW, 0, none⟩ = some (.int .i64 x2.who) ∧ w'.cell? ⟨gW, 1, none⟩ = some (.string x2.key) ∧ w'.cell? ⟨gW, 2, none⟩ = some (.slice a2 x2.disk.files.length cc) ∧ w'.cell? ⟨gW, 3, none⟩ = some (.int .i64 x2.disk.fuse) ∧ w'.cell? ⟨gW, 4, none⟩ = some (.int .i64 x2.seen.1) ∧ w'.cell? ⟨gW, 5, none⟩ = some (.string x2.seen.2)) ∧ w'.cell? ⟨gA, 5, none⟩ = some (.int .i64 qk)) (.inl fun _ h => h) (⟨⟨c0, c1, c2_, c3_, c4, c5⟩, e5⟩) ?_; clear hK K; try simp only [Act.put, List.setIfInBounds_toArray, List.set_cons_zero, List.set_cons_succ])
                  repeat (first | (refine Twin.ro_q (by rfl) (v := ?_) ?_ ?_; rotate_left; (focus (intro w' hSw; (try dsimp only at hSw); go_simp; try with_reducible rfl)); simp only [Act.put, List.setIfInBounds_toArray, List.set_cons_zero, List.set_cons_succ]) | (refine Twin.ro_skip (by rfl) ?_; simp only [Act.put, List.setIfInBounds_toArray, List.set_cons_zero, List.set_cons_succ]))
                  (refine Twin.ro_loud (by rfl) (fun K hK => ?_); go_simp)
                  (with_reducible refine (HWK.out _ HC1.out).mono ?_)
                  rintro en wk ⟨v3, rfl, hb, hnw⟩
                  have how := hnw.owned (owns_below (HSB.out _ HC1.out).own hb) (HBB.out.trans (HC1.out.mono HBB.out.size)).size
                  clear hnw
                  obtain ⟨a3, c3, rfl⟩ := owns_slice how
                  have HOW := Lib.hid how
                  have HC2 := Lib.hid (HC1.out.trans (hb.mono HC1.out.size))
                  have gz := blk_below gz hb
                  clear hb how
                  clear c0 c1 c2_ c3_ c4 c5 e5
                  obtain ⟨c0, c1, c2_, c3_, c4, c5⟩ := six_cells (HSB.out _ HC2.out).blk
                  obtain ⟨_, _, _, _, _, e5⟩ := six_cells (HAB.out _ HC2.out)
                  (refine hK.out _ _ (fun w' => (w'.cell? ⟨gW, 0, none⟩ = some (.int .i64 x2.who) ∧ w'.cell? ⟨gW, 1, none⟩ = some (.string x2.key) ∧ w'.cell? ⟨gW, 2, none⟩ = some (.slice a2 x2.disk.files.length cc) ∧ w'.cell? ⟨gW, 3, none⟩ = some (.int .i64 x2.disk.fuse) ∧ w'.cell? ⟨gW, 4, none⟩ = some (.int .i64 x2.seen.1) ∧ w'.cell? ⟨gW, 5, none⟩ = some (.string x2.seen.2)) ∧ w'.cell? ⟨gA, 5, none⟩ = some (.int .i64 qk)) (.inl fun _ h => h) (⟨⟨c0, c1, c2_, c3_, c4, c5⟩, e5⟩) ?_; clear hK K; try simp only [Act.put, List.setIfInBounds_toArray, List.set_cons_zero, List.set_cons_succ])
                  repeat (first | (refine Twin.ro_q (by rfl) (v := ?_) ?_ ?_; rotate_left; (focus (intro w' hSw; (try dsimp only at hSw); go_simp; try with_reducible rfl)); simp only [Act.put, List.setIfInBounds_toArray, List.set_cons_zero, List.set_cons_succ]) | (refine Twin.ro_skip (by rfl) ?_; simp only [Act.put, List.setIfInBounds_toArray, List.set_cons_zero, List.set_cons_succ]))
                  (refine Twin.ro_loud (by rfl) (fun K hK => ?_))
                  refine wp_store_blkT 30 (.tmp 19) (.tmp 148) rfl g #[.int .i64 x2.who, .string x2.key, .slice a3 zd.files.length c3, .int .i64 zd.fuse, .int .i64 x2.seen.1, .string x2.seen.2] rfl rfl (old := _) gz (by kernel_rfl) rfl (by simp [Value.oneCell']) ?_
                  intro wS gS uS
                  have hlg := HLH.out
                  have hla := HLA.out
                  have hgB : gH < wB.heap.size := (Array.getElem?_eq_some_iff.1 (HHB.out _ HC0.out)).1
                  have hOW := owns_upd HOW.out uS (fun k hk e => owns_ne (e := 92) (t := 30) HOW.out gz (by decide) (e ▸ hk))
                  have hSS : WitAt wS w.heap.size gW x2 a2 cc r key := by have h := HSB.out _ HC2.out; exact ⟨blk_upd h.blk uS (by omega), owns_upd h.own uS (fun k hk e => owns_ne (e := 92) (t := 30) h.own gz (by decide) (e ▸ hk)), h.ok, h.who, h.key, h.fuse⟩
                  have hAS := blk_upd (HAB.out _ HC2.out) uS (by omega)
                  have hHS := blk_upd (HHB.out _ HC2.out) uS (by omega)
                  have hBS := below_upd (HBB.out.trans (HC2.out.mono HBB.out.size)) uS (by have := HBB.out.size; omega) (HBB.out.trans (HC2.out.mono HBB.out.size)).size
                  have HREL := Lib.hid (And.intro gS (And.intro hOW (And.intro hSS (And.intro hHS hBS))))
                  clear c0 c1 c2_ c3_ c4 c5 e5
                  obtain ⟨c0, c1, c2_, c3_, c4, c5⟩ := six_cells hSS.blk
                  obtain ⟨_, _, _, _, _, e5⟩ := six_cells hAS
                  clear gS uS hOW hSS hAS hHS hBS hlg hla hgB gz hgl
                  (refine hK.out _ _ (fun w' => (w'.cell? ⟨gW, 0, none⟩ = some (.int .i64 x2.who) ∧ w'.cell? ⟨gW, 1, none⟩ = some (.string x2.key) ∧ w'.cell? ⟨gW, 2, none⟩ = some (.slice a2 x2.disk.files.length cc) ∧ w'.cell? ⟨gW, 3, none⟩ = some (.int .i64 x2.disk.fuse) ∧ w'.cell? ⟨gW, 4, none⟩ = some (.int .i64 x2.seen.1) ∧ w'.cell? ⟨gW, 5, none⟩ = some (.string x2.seen.2)) ∧ w'.cell? ⟨gA, 5, none⟩ = some (.int .i64 qk)) (.inl fun _ h => h) (⟨⟨c0, c1, c2_, c3_, c4, c5⟩, e5⟩) ?_; clear hK K; try simp only [Act.put, List.setIfInBounds_toArray, List.set_cons_zero, List.set_cons_succ])
                  repeat (first | (refine Twin.ro_q (by rfl) (v := ?_) ?_ ?_; rotate_left; (focus (intro w' hSw; (try dsimp only at hSw); go_simp; try with_reducible rfl)); simp only [Act.put, List.setIfInBounds_toArray, List.set_cons_zero, List.set_cons_succ]) | (refine Twin.ro_skip (by rfl) ?_; simp only [Act.put, List.setIfInBounds_toArray, List.set_cons_zero, List.set_cons_succ]))
                  refine Twin.ro_nil ?_
                  go_wp2_with fail
                  go_meet
                  exact ⟨g, zd, a3, c3, rfl, rfl, Lib.hid HREL.out.1, Lib.hid HREL.out.2.1, HZO, Lib.hid HREL.out.2.2.1, Lib.hid HREL.out.2.2.2.1, Lib.hid HREL.out.2.2.2.2⟩
              · (refine Twin.ro_loud (by rfl) (fun K hK => ?_); go_simp)
                obtain ⟨wa, hwa⟩ : ∃ X, wB.alloc (.cells #[.int .i64 0, .string ⟨#[]⟩, .slice none 0 0, .int .i64 0, .int .i64 0, .string ⟨#[]⟩] 30) = X := ⟨_, rfl⟩
                obtain ⟨g, hg⟩ : ∃ g, g = wB.heap.size := ⟨_, rfl⟩
                have gz : wa.heap[g]? = some (.cells #[.int .i64 0, .string ⟨#[]⟩, .slice none 0 0, .int .i64 0, .int .i64 0, .string ⟨#[]⟩] 30 (0, 0)) := by rw [hg, ← hwa]; exact heap_alloc_new _ _
                have hb : Below wB.heap.size wB wa := by rw [← hwa]; exact (Below.refl _ _).alloc (Nat.le_refl _) _
                have hgl : g ≥ wB.heap.size := by rw [hg]; exact HC0.out.size
                rw [← hg, hwa]
                have HC1 := Lib.hid (HC0.out.trans (hb.mono HC0.out.size))
                clear hb hwa hg
                clear c0 c1 c2_ c3_ c4 c5 e5
                obtain ⟨c0, c1, c2_, c3_, c4, c5⟩ := six_cells (HSB.out _ HC1.out).blk
                obtain ⟨_, _, _, _, _, e5⟩ := six_cells (HAB.out _ HC1.out)
                (refine hK.out _ _ (fun w' => (w'.cell? ⟨gW, 0, none⟩ = some (.int .i64 x2.who) ∧ w'.cell? ⟨gW, 1, none⟩ = some (.string x2.key) ∧ w'.cell? ⟨gW, 2, none⟩ = some (.slice a2 x2.disk.files.length cc) ∧ w'.cell? ⟨gW, 3, none⟩ = some (.int .i64 x2.disk.fuse) ∧ w'.cell? ⟨gW, 4, none⟩ = some (.int .i64 x2.seen.1) ∧ w'.cell? ⟨gW, 5, none⟩ = some (.string x2.seen.2)) ∧ w'.cell? ⟨gA, 5, none⟩ = some (.int .i64 qk)) (.inl fun _ h => h) (⟨⟨c0, c1, c2_, c3_, c4, c5⟩, e5⟩) ?_; clear hK K; try simp only [Act.put, List.setIfInBounds_toArray, List.set_cons_zero, List.set_cons_succ])
                repeat (first | (refine Twin.ro_q (by rfl) (v := ?_) ?_ ?_; rotate_left; (focus (intro w' hSw; (try dsimp only at hSw); go_simp; try with_reducible rfl)); simp only [Act.put, List.setIfInBounds_toArray, List.set_cons_zero, List.set_cons_succ]) | (refine Twin.ro_skip (by rfl) ?_; simp only [Act.put, List.setIfInBounds_toArray, List.set_cons_zero, List.set_cons_succ]))
                (refine Twin.ro_loud (by rfl) (fun K hK => ?_); go_simp)
                (with_reducible refine (HPK.out _).mono ?_)
                rintro en wz ⟨rfl, rfl⟩
                (refine hK.out _ _ (fun w' => (w'.cell? ⟨gW, 0, none⟩ = some (.int .i64 x2.who) ∧ w'.cell? ⟨gW, 1, none⟩ = some (.string x2.key) ∧ w'.cell? ⟨gW, 2, none⟩ = some (.slice a2 x2.disk.files.length cc) ∧ w'.cell? ⟨gW, 3, none⟩ = some (.int .i64 x2.disk.fuse) ∧ w'.cell? ⟨gW, 4, none⟩ = some (.int .i64 x2.seen.1) ∧ w'.cell? ⟨gW, 5, none⟩ = some (.string x2.seen.2)) ∧ w'.cell? ⟨gA, 5, none⟩ = some (.int .i64 qk)) (.inl fun _ h => h) (⟨⟨c0, c1, c2_, c3_, c4, c5⟩, e5⟩) ?_; clear hK K; try simp only [Act.put, List.setIfInBounds_toArray, List.set_cons_zero, List.set_cons_succ])
                repeat (first | (refine Twin.ro_q (by rfl) (v := ?_) ?_ ?_; rotate_left; (focus (intro w' hSw; (try dsimp only at hSw); go_simp; try with_reducible rfl)); simp only [Act.put, List.setIfInBounds_toArray, List.set_cons_zero, List.set_cons_succ]) | (refine Twin.ro_skip (by rfl) ?_; simp only [Act.put, List.setIfInBounds_toArray, List.set_cons_zero, List.set_cons_succ]))
                (refine Twin.ro_loud (by rfl) (fun K hK => ?_); go_simp)
                (with_reducible refine (HWK.out _ HC1.out).mono ?_)
                rintro en wk ⟨v3, rfl, hb, hnw⟩
                have how := hnw.owned (owns_below (HSB.out _ HC1.out).own hb) (HBB.out.trans (HC1.out.mono HBB.out.size)).size
                clear hnw
                obtain ⟨a3, c3, rfl⟩ := owns_slice how
                have HOW := Lib.hid how
                have HC2 := Lib.hid (HC1.out.trans (hb.mono HC1.out.size))
                have gz := blk_below gz hb
                clear hb how
                clear c0 c1 c2_ c3_ c4 c5 e5
                obtain ⟨c0, c1, c2_, c3_, c4, c5⟩ := six_cells (HSB.out _ HC2.out).blk
                obtain ⟨_, _, _, _, _, e5⟩ := six_cells (HAB.out _ HC2.out)
                (refine hK.out _ _ (fun w' => (w'.cell? ⟨gW, 0, none⟩ = some (.int .i64 x2.who) ∧ w'.cell? ⟨gW, 1, none⟩ = some (.string x2.key) ∧ w'.cell? ⟨gW, 2, none⟩ = some (.slice a2 x2.disk.files.length cc) ∧ w'.cell? ⟨gW, 3, none⟩ = some (.int .i64 x2.disk.fuse) ∧ w'.cell? ⟨gW, 4, none⟩ = some (.int .i64 x2.seen.1) ∧ w'.cell? ⟨gW, 5, none⟩ = some (.string x2.seen.2)) ∧ w'.cell? ⟨gA, 5, none⟩ = some (.int .i64 qk)) (.inl fun _ h => h) (⟨⟨c0, c1, c2_, c3_, c4, c5⟩, e5⟩) ?_; clear hK K; try simp only [Act.put, List.setIfInBounds_toArray, List.set_cons_zero, List.set_cons_succ])
                repeat (first | (refine Twin.ro_q (by rfl) (v := ?_) ?_ ?_; rotate_left; (focus (intro w' hSw; (try dsimp only at hSw); go_simp; try with_reducible rfl)); simp only [Act.put, List.setIfInBounds_toArray, List.set_cons_zero, List.set_cons_succ]) | (refine Twin.ro_skip (by rfl) ?_; simp only [Act.put, List.setIfInBounds_toArray, List.set_cons_zero, List.set_cons_succ]))
                (refine Twin.ro_loud (by rfl) (fun K hK => ?_))
                refine wp_store_blkT 30 (.tmp 19) (.tmp 148) rfl g #[.int .i64 x2.who, .string x2.key, .slice a3 zd.files.length c3, .int .i64 zd.fuse, .int .i64 x2.seen.1, .string x2.seen.2] rfl rfl (old := _) gz (by kernel_rfl) rfl (by simp [Value.oneCell']) ?_
                intro wS gS uS
                have hlg := HLH.out
                have hla := HLA.out
                have hgB : gH < wB.heap.size := (Array.getElem?_eq_some_iff.1 (HHB.out _ HC0.out)).1
                have hOW := owns_upd HOW.out uS (fun k hk e => owns_ne (e := 92) (t := 30) HOW.out gz (by decide) (e ▸ hk))
                have hSS : WitAt wS w.heap.size gW x2 a2 cc r key := by have h := HSB.out _ HC2.out; exact ⟨blk_upd h.blk uS (by omega), owns_upd h.own uS (fun k hk e => owns_ne (e := 92) (t := 30) h.own gz (by decide) (e ▸ hk)), h.ok, h.who, h.key, h.fuse⟩
                have hAS := blk_upd (HAB.out _ HC2.out) uS (by omega)
                have hHS := blk_upd (HHB.out _ HC2.out) uS (by omega)
                have hBS := below_upd (HBB.out.trans (HC2.out.mono HBB.out.size)) uS (by have := HBB.out.size; omega) (HBB.out.trans (HC2.out.mono HBB.out.size)).size
                have HREL := Lib.hid (And.intro gS (And.intro hOW (And.intro hSS (And.intro hHS hBS))))
                clear c0 c1 c2_ c3_ c4 c5 e5
                obtain ⟨c0, c1, c2_, c3_, c4, c5⟩ := six_cells hSS.blk
                obtain ⟨_, _, _, _, _, e5⟩ := six_cells hAS
                clear gS uS hOW hSS hAS hHS hBS hlg hla hgB gz hgl
                (refine hK.out _ _ (fun w' => (w'.cell? ⟨gW, 0, none⟩ = some (.int .i64 x2.who) ∧ w'.cell? ⟨gW, 1, none⟩ = some (.string x2.key) ∧ w'.cell? ⟨gW, 2, none⟩ = some (.slice a2 x2.disk.files.length cc) ∧ w'.cell? ⟨gW, 3, none⟩ = some (.int .i64 x2.disk.fuse) ∧ w'.cell? ⟨gW, 4, none⟩ = some (.int .i64 x2.seen.1) ∧ w'.cell? ⟨gW, 5, none⟩ = some (.string x2.seen.2)) ∧ w'.cell? ⟨gA, 5, none⟩ = some (.int .i64 qk)) (.inl fun _ h => h) (⟨⟨c0, c1, c2_, c3_, c4, c5⟩, e5⟩) ?_; clear hK K; try simp only [Act.put, List.setIfInBounds_toArray, List.set_cons_zero, List.set_cons_succ])
                repeat (first | (refine Twin.ro_q (by rfl) (v := ?_) ?_ ?_; rotate_left; (focus (intro w' hSw; (try dsimp only at hSw); go_simp; try with_reducible rfl)); simp only [Act.put, List.setIfInBounds_toArray, List.set_cons_zero, List.set_cons_succ]) | (refine Twin.ro_skip (by rfl) ?_; simp only [Act.put, List.setIfInBounds_toArray, List.set_cons_zero, List.set_cons_succ]))
                refine Twin.ro_nil ?_
                go_wp2_with fail
                go_meet
                exact ⟨g, zd, a3, c3, rfl, rfl, Lib.hid HREL.out.1, Lib.hid HREL.out.2.1, HZO, Lib.hid HREL.out.2.2.1, Lib.hid HREL.out.2.2.2.1, Lib.hid HREL.out.2.2.2.2⟩
            case rest =>
              obtain ⟨g, zd, a3, c3, rfl, rfl, HGx, HOx, HZO, HSx, HHx, HBx⟩ := hcut
              clear c0 c1 c2_ c3_ c4 c5 e0 e1 e2 e3 e4 e5 f0 f1 fz0 fz1 HSd HAd HHd HBd
              obtain ⟨g0, g1, g2, g3, g4, g5⟩ := six_cells (HGx.out)
              obtain ⟨f0, f1, fz0, fz1⟩ := cell_of_two (HHx.out)
              go_upto_region 27 with fail
              go_wp2_with (refine wpList_store_blk (by rfl) 30 (.tmp 7) (.tmp 158) rfl gW #[.int .i64 x2.who, .string x2.key, .slice a3 zd.files.length c3, .int .i64 zd.fuse, .int .i64 x2.seen.1, .string x2.seen.2] rfl rfl (old := _) HSx.out.blk (by kernel_rfl) rfl (by simp [Value.oneCell']) ?_; intro wf gf uf; have HBE := Lib.hid (below_upd HBx.out uf HGW.out HBx.out.size); have HSE := Lib.hid (show WitAt wf w.heap.size gW ⟨x2.who, x2.key, zd, x2.seen⟩ a3 c3 r key from ⟨gf, owns_upd HOx.out uf (fun k hk e => owns_ne (e := 92) (t := 30) HOx.out HSx.out.blk (by decide) (e ▸ hk)), HZO.out.1, HSx.out.who, HSx.out.key, by show -9223372036854775808 ≤ zd.fuse ∧ zd.fuse ≤ 9223372036854775807; rw [HZO.out.2]; decide⟩))
              exact ⟨⟨k + 1, _, a3, c3, false, HKL.out, HK30.out, rfl, rfl, HSE, HBE⟩, meas_step (n := 30) _ rfl HK30.out⟩)
      · have kb : decide ((k : Int) < (L.length : Int)) = true := decide_eq_true (by omega)
        have k3 : decide ((k : Int) < 30) = false := decide_eq_false (by omega)
        have k4 : decide (k < 30) = false := decide_eq_false (by omega)
        have ki : (k : Int) < (L.length : Int) := by omega
        clear hk30
        go_wp2_with fail
        go_ret
        exact ⟨rfl, HB.out⟩
    · have kb : decide ((k : Int) < (L.length : Int)) = false := decide_eq_false (by omega)
      have kb2 : decide (k < L.length) = false := decide_eq_false hkl
      clear hkl
      go_wp2_with fail
      go_ret
      exact ⟨rfl, HB.out⟩
end Go.Proofs.YtmacceamebdelaaDoor
