/- The walk of object.Decode. -/
import Derived.Test.YtmjnohblifihmaaObject6b
namespace Go.Proofs.Ytmjnohblifihmaa
open Go.RowKit
set_option linter.unusedVariables false
set_option linter.unusedSimpArgs false

set_option maxRecDepth 100000 in
set_option maxHeartbeats 3200000 in
theorem decode_any (s : ByteArray) (w : World) (hs : s.size ≤ 9223372036854775807) : Calls Try.prog 8 #[.string s] w (DecR w (decodeF s)) := by
  obtain ⟨F, hF⟩ : ∃ F, F = decodeF s := ⟨_, rfl⟩
  rw [← hF]
  have HF := Lib.hid hF
  clear hF
  obtain ⟨W, hW⟩ : ∃ W, w.alloc (.cells #[.int .i64 0, .string ⟨#[]⟩, .slice none 0 0, .string ⟨#[]⟩, .slice none 0 0, .string ⟨#[]⟩, .string ⟨#[]⟩, .int .i64 0, .string ⟨#[]⟩] 25) = W := ⟨_, rfl⟩
  have gR0 : W.heap[w.heap.size]? = some (.cells #[.int .i64 0, .string ⟨#[]⟩, .slice none 0 0, .string ⟨#[]⟩, .slice none 0 0, .string ⟨#[]⟩, .string ⟨#[]⟩, .int .i64 0, .string ⟨#[]⟩] 25 (0, 0)) := by rw [← hW]; exact heap_alloc_new _ _
  have hb1 : Below w.heap.size w W := by rw [← hW]; exact (Below.refl _ _).alloc (Nat.le_refl _) _
  have HW0 := Lib.hid hb1
  have HGR := Lib.hid (fun wr (h : Below W.heap.size W wr) => blk_below gR0 h)
  by_cases hbig : 8192 < s.size
  · have f1 : decide ((8192 : Int) < (s.size : Int)) = true := decide_eq_true (by omega)
    have f2 : decide (8192 < s.size) = true := decide_eq_true hbig
    have hF : F = (zeroO, 1) := by rw [HF.out, decodeF, if_pos hbig]
    subst hF
    clear HF hbig hb1
    go_enter Try.func8, Try.ntmps8
    obtain ⟨r0, r1, r2, r3, r4, r5, r6, r7, r8⟩ := ob_cells' (o := zeroO) (ve := .slice none 0 0) (vp := .slice none 0 0) gR0
    obtain ⟨y0, y1, y2, y3, y4, y5, y6, y7, y8⟩ := ob_free' (o := zeroO) (ve := .slice none 0 0) (vp := .slice none 0 0) gR0
    go_wp2_with fail
    refine bodyPost_ret (v := .tuple #[.agg (objC zeroO (.slice none 0 0) (.slice none 0 0)).toArray, .int .i64 1]) ?_ rfl ⟨.slice none 0 0, .slice none 0 0, rfl, rdE_nil _, rdS_nil _, ?_⟩
    · simp [results, Try.f8, go_sem, objC, zeroO, noB, r0, r1, r2, r3, r4, r5, r6, r7, r8]
    · exact set9 HW0.out (by omega) _ _ _ _ _ _ _ _ _
  · have f1 : decide ((8192 : Int) < (s.size : Int)) = false := decide_eq_false (by omega)
    have f2 : decide (8192 < s.size) = false := decide_eq_false hbig
    have HNB := Lib.hid hbig
    have HFF := Lib.hid HF.out
    have HRDA := Lib.hid (read_any s W)
    clear HF hb1
    go_enter Try.func8, Try.ntmps8
    go_wp2_with fail
    (with_reducible refine HRDA.out.mono ?_)
    rintro e w1 ⟨rfl, hr1, hb1, hz1⟩
    have HB1 := Lib.hid hb1
    have HN1 := Lib.hid (rNumber_any hr1 (by show s.size ≤ _; unfold maxLen; omega))
    have hle1 := rNum_le (s, 0)
    have h62 := rNum_62 (s, 0)
    obtain ⟨⟨K, st1⟩, hq1⟩ : ∃ q, q = rNum (s, 0) := ⟨_, rfl⟩
    rw [← hq1] at HN1 hle1 h62
    have HQ1 := Lib.hid hq1
    have hst1 : st1.1.size ≤ 8192 := Nat.le_trans hle1 (by show s.size ≤ 8192; omega)
    obtain ⟨g, hgd⟩ : ∃ g, W.heap.size = g := ⟨_, rfl⟩
    rw [hgd] at HN1 hr1 hz1 ⊢
    clear hW hr1 hq1 hle1 HRDA hb1
    go_wp2_with fail
    (with_reducible refine HN1.out.mono ?_)
    rintro e w2 ⟨rfl, hr2, hu2⟩
    have HB2 := Lib.hid (HB1.out.trans (hu2.below (by omega) (fun k hk => by omega)))
    have hsz2 : g + 1 ≤ w2.heap.size := by have := hu2.size; omega
    have HR2 := Lib.hid hr2
    obtain ⟨q, hqd⟩ : ∃ q, w2.heap.size = q := ⟨_, rfl⟩
    obtain ⟨V, hV⟩ : ∃ V, w2.alloc (.cells (objC { zeroO with kind := (K : Int) } (.slice none 0 0) (.slice none 0 0)).toArray 25) = V := ⟨_, rfl⟩
    have hbv : Below w2.heap.size w2 V := by rw [← hV]; exact (Below.refl _ _).alloc (Nat.le_refl _) _
    have HB3 := Lib.hid (HB2.out.trans (hbv.mono HB2.out.size))
    have HD3 := Lib.hid (show DecSt V W.heap.size g q st1 { zeroO with kind := (K : Int) } (.slice none 0 0) (.slice none 0 0) from ⟨hr2.below hbv, hst1, by rw [← hV, ← hqd]; exact heap_alloc_new _ _, World.ownsRow_nil _ _ _ _, World.ownsRow_nil _ _ _ _, by omega, by omega, HB3.out.size⟩)
    have hV' : w2.alloc (.cells #[.int .i64 (K : Int), .string ⟨#[]⟩, .slice none 0 0, .string ⟨#[]⟩, .slice none 0 0, .string ⟨#[]⟩, .string ⟨#[]⟩, .int .i64 0, .string ⟨#[]⟩] 25) = V := hV
    obtain ⟨c0, c1, c2, c3, c4, c5, c6, c7, c8⟩ := ob_cells' HD3.out.ob
    obtain ⟨z0, z1, z2, z3, z4, z5, z6, z7, z8⟩ := ob_free' HD3.out.ob
    clear hV hbv hr2 hu2 HN1 hz1
    have HQ1' := Lib.hid HQ1.out.symm
    clear HQ1
    by_cases k1 : K = 1
    · subst k1
      have HD3' := Lib.hid (show DecSt V W.heap.size g q st1 { zeroO with kind := 1 } (.slice none 0 0) (.slice none 0 0) from HD3.out)
      clear HD3
      have HD3 := Lib.hid HD3'.out
      clear HD3'
      have hV2 : w2.alloc (.cells #[.int .i64 1, .string ⟨#[]⟩, .slice none 0 0, .string ⟨#[]⟩, .slice none 0 0, .string ⟨#[]⟩, .string ⟨#[]⟩, .int .i64 0, .string ⟨#[]⟩] 25) = V := hV'
      clear hV'
      clear c0 c1 c2 c3 c4 c5 c6 c7 c8 z0 z1 z2 z3 z4 z5 z6 z7 z8
      obtain ⟨c0, c1, c2, c3, c4, c5, c6, c7, c8⟩ := ob_cells' HD3.out.ob
      obtain ⟨z0, z1, z2, z3, z4, z5, z6, z7, z8⟩ := ob_free' HD3.out.ob
      obtain ⟨i1, i2, i3, i4, i5, i6, i7, i8⟩ := ob_set_id HD3.out.ob
      have HC4 := Lib.hid (rText_any HD3.out.rd (by have := HD3.out.sz; omega))
      have hle4 := rTxt_le st1
      obtain ⟨⟨td, st2⟩, hq4⟩ : ∃ q, q = rTxt st1 := ⟨_, rfl⟩
      rw [← hq4] at HC4 hle4
      have HQ4 := Lib.hid hq4.symm
      have hsz4 : st2.1.size ≤ 8192 := Nat.le_trans hle4 HD3.out.sz
      clear hq4 hle4
      go_wp2_with fail
      (with_reducible refine HC4.out.mono ?_)
      rintro e w4 hto
      obtain ⟨rfl, hd4, hb4⟩ := HD3.out.read hto hsz4
      have HD4 := Lib.hid hd4
      have HB4 := Lib.hid (HB3.out.trans hb4)
      clear hto hd4 hb4 HC4 hsz4
      clear c0 c1 c2 c3 c4 c5 c6 c7 c8 z0 z1 z2 z3 z4 z5 z6 z7 z8
      obtain ⟨c0, c1, c2, c3, c4, c5, c6, c7, c8⟩ := ob_cells' HD4.out.ob
      obtain ⟨z0, z1, z2, z3, z4, z5, z6, z7, z8⟩ := ob_free' HD4.out.ob
      obtain ⟨hd5, hb5⟩ := HD4.out.set 1 (.string td) (o' := (⟨1, td, [], noB, [], noB, noB, 0, noB⟩ : Obj)) rfl rfl rfl
      have HD5 := Lib.hid hd5
      have HB5 := Lib.hid (HB4.out.trans hb5)
      clear hd5 hb5
      obtain ⟨rr, er⟩ := st2
      have HRAW := Lib.hid (HFF.out.trans ((decodeF_some HNB.out (raw_1 HQ1'.out)).trans (show endF2 (rawB st1).1 (rawB st1).2 = endF2 (⟨1, td, [], noB, [], noB, noB, 0, noB⟩ : Obj) (rr, er) by unfold rawB; rw [HQ4.out]; rfl)))
      have HKR := Lib.hid (show 1 ≤ (⟨1, td, [], noB, [], noB, noB, 0, noB⟩ : Obj).kind ∧ (⟨1, td, [], noB, [], noB, noB, 0, noB⟩ : Obj).kind ≤ 4 from ⟨(by decide : (1 : Int) ≤ 1), (by decide : (1 : Int) ≤ 4)⟩)
      have HCb := Lib.hid (rBad_any HD5.out.rd)
      go_wp2_with fail
      (with_reducible refine HCb.out.mono ?_)
      rintro e w0 ⟨rfl, rfl⟩
      clear c0 c1 c2 c3 c4 c5 c6 c7 c8 z0 z1 z2 z3 z4 z5 z6 z7 z8
      obtain ⟨c0, c1, c2, c3, c4, c5, c6, c7, c8⟩ := ob_cells' HD5.out.ob
      obtain ⟨z0, z1, z2, z3, z4, z5, z6, z7, z8⟩ := ob_free' HD5.out.ob
      by_cases her : er = 0
      · subst her
        have HCl := Lib.hid (rLeft_any HD5.out.rd)
        go_wp2_with fail
        (with_reducible refine HCl.out.mono ?_)
        rintro e w0 ⟨rfl, rfl⟩
        by_cases hleft : 0 < rr.size
        · have hF := HRAW.out.trans (endF2_left HKR.out hleft)
          subst hF
          have h1 : decide ((0 : Int) < (rr.size : Int)) = true := decide_eq_true (by omega)
          have h2 : decide (0 < rr.size) = true := decide_eq_true hleft
          clear hleft
          obtain ⟨r0, r1, r2, r3, r4, r5, r6, r7, r8⟩ := ob_cells' (o := zeroO) (ve := .slice none 0 0) (vp := .slice none 0 0) (HGR.out _ HB5.out)
          obtain ⟨y0, y1, y2, y3, y4, y5, y6, y7, y8⟩ := ob_free' (o := zeroO) (ve := .slice none 0 0) (vp := .slice none 0 0) (HGR.out _ HB5.out)
          go_wp2_with fail
          refine bodyPost_ret (v := .tuple #[.agg (objC zeroO (.slice none 0 0) (.slice none 0 0)).toArray, .int .i64 (2)]) ?_ rfl ⟨.slice none 0 0, .slice none 0 0, rfl, rdE_nil _, rdS_nil _, ?_⟩
          · simp [results, Try.f8, go_sem, objC, zeroO, noB, r0, r1, r2, r3, r4, r5, r6, r7, r8]
          · exact set9 (HW0.out.trans (HB5.out.mono HW0.out.size)) (by have := HW0.out.size; omega) _ _ _ _ _ _ _ _ _
        · have h1 : decide ((0 : Int) < (rr.size : Int)) = false := decide_eq_false (by omega)
          have h2 : decide (0 < rr.size) = false := decide_eq_false hleft
          have HFG := Lib.hid (HRAW.out.trans (endF2_good (.inr (by omega))))
          clear hleft
          have HCg := Lib.hid (ogood_any _ _ _ _ (rdRow_of_owns HD5.out.es) (rdRow_of_owns HD5.out.ps))
          obtain ⟨gq, hgq⟩ : ∃ e : Int, e = goodF (⟨1, td, [], noB, [], noB, noB, 0, noB⟩ : Obj) := ⟨_, rfl⟩
          have gob := HD5.out.ob
          have HGQ := Lib.hid hgq
          rw [← hgq] at HCg HFG
          clear hgq
          go_wp2_with (first | (refine wpList_load_blk (by rfl) 25 (.tmp 5) rfl q rfl (.agg (objC (⟨1, td, [], noB, [], noB, noB, 0, noB⟩ : Obj) _ _).toArray) rfl gob Try.underlying25 rfl (by kernel_rfl) ?_))
          (with_reducible refine HCg.out.mono ?_)
          rintro e w9 ⟨rfl, hb9⟩
          have HB9 := Lib.hid (HB5.out.trans (hb9.mono HD5.out.le.2.2))
          have HD9 := Lib.hid (HD5.out.below hb9)
          clear hb9 gob HCg
          clear c0 c1 c2 c3 c4 c5 c6 c7 c8 z0 z1 z2 z3 z4 z5 z6 z7 z8
          obtain ⟨c0, c1, c2, c3, c4, c5, c6, c7, c8⟩ := ob_cells' HD9.out.ob
          obtain ⟨z0, z1, z2, z3, z4, z5, z6, z7, z8⟩ := ob_free' HD9.out.ob
          by_cases hg0 : gq = 0
          · have hF := HFG.out.trans (if_neg (by simpa using hg0))
            subst hF hg0
            have gob9 := HD9.out.ob
            have gR9 := HGR.out _ HB9.out
            have hone9 := HD9.out.one
            go_wp2_with (first | (refine wpList_load_blk (by rfl) 25 (.tmp 5) rfl q rfl (.agg (objC (⟨1, td, [], noB, [], noB, noB, 0, noB⟩ : Obj) _ _).toArray) rfl gob9 Try.underlying25 rfl (by kernel_rfl) ?_) | (refine wpList_store_blk (by rfl) 25 (.tmp 2) (.tmp 128) rfl w.heap.size (objC (⟨1, td, [], noB, [], noB, noB, 0, noB⟩ : Obj) _ _).toArray rfl rfl gR9 info_ob rfl hone9 ?_; intro wz hRz hUz))
            obtain ⟨r0, r1, r2, r3, r4, r5, r6, r7, r8⟩ := ob_cells' hRz
            have hlt : w.heap.size < W.heap.size := lt_of_block (HGR.out _ (Below.refl _ _))
            refine bodyPost_ret (v := .tuple #[.agg (objC (⟨1, td, [], noB, [], noB, noB, 0, noB⟩ : Obj) (.slice none 0 0) (.slice none 0 0)).toArray, .int .i64 0]) ?_ rfl ⟨_, _, rfl, rdRow_of_owns (owns_upd HD9.out.es hUz (fun k hk e => by have := owns_ge HD9.out.es hk; omega)), rdRow_of_owns (owns_upd HD9.out.ps hUz (fun k hk e => by have := owns_ge HD9.out.ps hk; omega)), below_upd (HW0.out.trans (HB9.out.mono HW0.out.size)) hUz (Nat.le_refl _) (by have := HW0.out.size; have := HB9.out.size; omega)⟩
            simp [results, Try.f8, go_sem, objC, r0, r1, r2, r3, r4, r5, r6, r7, r8]
          · have h1 : (gq == 0) = false := beq_eq_false_iff_ne.2 hg0
            have h2 : (gq != 0) = true := by rw [bne, h1]; rfl
            have hF := HFG.out.trans (if_pos hg0)
            subst hF
            clear hg0
            obtain ⟨r0, r1, r2, r3, r4, r5, r6, r7, r8⟩ := ob_cells' (o := zeroO) (ve := .slice none 0 0) (vp := .slice none 0 0) (HGR.out _ HB9.out)
            obtain ⟨y0, y1, y2, y3, y4, y5, y6, y7, y8⟩ := ob_free' (o := zeroO) (ve := .slice none 0 0) (vp := .slice none 0 0) (HGR.out _ HB9.out)
            go_wp2_with fail
            refine bodyPost_ret (v := .tuple #[.agg (objC zeroO (.slice none 0 0) (.slice none 0 0)).toArray, .int .i64 (gq)]) ?_ rfl ⟨.slice none 0 0, .slice none 0 0, rfl, rdE_nil _, rdS_nil _, ?_⟩
            · simp [results, Try.f8, go_sem, objC, zeroO, noB, r0, r1, r2, r3, r4, r5, r6, r7, r8]
            · exact set9 (HW0.out.trans (HB9.out.mono HW0.out.size)) (by have := HW0.out.size; omega) _ _ _ _ _ _ _ _ _
      · have h1 : (er == 0) = false := beq_eq_false_iff_ne.2 her
        have h2 : (er != 0) = true := by rw [bne, h1]; rfl
        have hF := HRAW.out.trans (endF2_bad her)
        subst hF
        clear her
        obtain ⟨r0, r1, r2, r3, r4, r5, r6, r7, r8⟩ := ob_cells' (o := zeroO) (ve := .slice none 0 0) (vp := .slice none 0 0) (HGR.out _ HB5.out)
        obtain ⟨y0, y1, y2, y3, y4, y5, y6, y7, y8⟩ := ob_free' (o := zeroO) (ve := .slice none 0 0) (vp := .slice none 0 0) (HGR.out _ HB5.out)
        go_wp2_with fail
        refine bodyPost_ret (v := .tuple #[.agg (objC zeroO (.slice none 0 0) (.slice none 0 0)).toArray, .int .i64 (2)]) ?_ rfl ⟨.slice none 0 0, .slice none 0 0, rfl, rdE_nil _, rdS_nil _, ?_⟩
        · simp [results, Try.f8, go_sem, objC, zeroO, noB, r0, r1, r2, r3, r4, r5, r6, r7, r8]
        · exact set9 (HW0.out.trans (HB5.out.mono HW0.out.size)) (by have := HW0.out.size; omega) _ _ _ _ _ _ _ _ _
    · by_cases k4 : K = 4
      · subst k4
        have HD3' := Lib.hid (show DecSt V W.heap.size g q st1 { zeroO with kind := 4 } (.slice none 0 0) (.slice none 0 0) from HD3.out)
        clear HD3
        have HD3 := Lib.hid HD3'.out
        clear HD3'
        have hV2 : w2.alloc (.cells #[.int .i64 4, .string ⟨#[]⟩, .slice none 0 0, .string ⟨#[]⟩, .slice none 0 0, .string ⟨#[]⟩, .string ⟨#[]⟩, .int .i64 0, .string ⟨#[]⟩] 25) = V := hV'
        clear hV'
        clear c0 c1 c2 c3 c4 c5 c6 c7 c8 z0 z1 z2 z3 z4 z5 z6 z7 z8
        obtain ⟨c0, c1, c2, c3, c4, c5, c6, c7, c8⟩ := ob_cells' HD3.out.ob
        obtain ⟨z0, z1, z2, z3, z4, z5, z6, z7, z8⟩ := ob_free' HD3.out.ob
        obtain ⟨i1, i2, i3, i4, i5, i6, i7, i8⟩ := ob_set_id HD3.out.ob
        have HC4 := Lib.hid (rBytes_any HD3.out.rd (by have := HD3.out.sz; omega) 32)
        have hle4 := rByt_le st1 32
        obtain ⟨⟨tg, st2⟩, hq4⟩ : ∃ q, q = rByt st1 32 := ⟨_, rfl⟩
        rw [← hq4] at HC4 hle4
        have HQ4 := Lib.hid hq4.symm
        have hsz4 : st2.1.size ≤ 8192 := Nat.le_trans hle4 HD3.out.sz
        clear hq4 hle4
        go_wp2_with fail
        (with_reducible refine HC4.out.mono ?_)
        rintro e w4 hto
        obtain ⟨rfl, hd4, hb4⟩ := HD3.out.read hto hsz4
        have HD4 := Lib.hid hd4
        have HB4 := Lib.hid (HB3.out.trans hb4)
        clear hto hd4 hb4 HC4 hsz4
        clear c0 c1 c2 c3 c4 c5 c6 c7 c8 z0 z1 z2 z3 z4 z5 z6 z7 z8
        obtain ⟨c0, c1, c2, c3, c4, c5, c6, c7, c8⟩ := ob_cells' HD4.out.ob
        obtain ⟨z0, z1, z2, z3, z4, z5, z6, z7, z8⟩ := ob_free' HD4.out.ob
        obtain ⟨hd5, hb5⟩ := HD4.out.set 8 (.string tg) (o' := (⟨4, noB, [], noB, [], noB, noB, 0, tg⟩ : Obj)) rfl rfl rfl
        have HD5 := Lib.hid hd5
        have HB5 := Lib.hid (HB4.out.trans hb5)
        clear hd5 hb5
        clear c0 c1 c2 c3 c4 c5 c6 c7 c8 z0 z1 z2 z3 z4 z5 z6 z7 z8
        obtain ⟨c0, c1, c2, c3, c4, c5, c6, c7, c8⟩ := ob_cells' HD4.out.ob
        obtain ⟨z0, z1, z2, z3, z4, z5, z6, z7, z8⟩ := ob_free' HD4.out.ob
        have HC6 := Lib.hid (rText_any HD5.out.rd (by have := HD5.out.sz; omega))
        have hle6 := rTxt_le st2
        obtain ⟨⟨tw, st3⟩, hq6⟩ : ∃ q, q = rTxt st2 := ⟨_, rfl⟩
        rw [← hq6] at HC6 hle6
        have HQ6 := Lib.hid hq6.symm
        have hsz6 : st3.1.size ≤ 8192 := Nat.le_trans hle6 HD5.out.sz
        clear hq6 hle6
        go_wp2_with fail
        (with_reducible refine HC6.out.mono ?_)
        rintro e w6 hto
        obtain ⟨rfl, hd6, hb6⟩ := HD5.out.read hto hsz6
        have HD6 := Lib.hid hd6
        have HB6 := Lib.hid (HB5.out.trans hb6)
        clear hto hd6 hb6 HC6 hsz6
        clear c0 c1 c2 c3 c4 c5 c6 c7 c8 z0 z1 z2 z3 z4 z5 z6 z7 z8
        obtain ⟨c0, c1, c2, c3, c4, c5, c6, c7, c8⟩ := ob_cells' HD6.out.ob
        obtain ⟨z0, z1, z2, z3, z4, z5, z6, z7, z8⟩ := ob_free' HD6.out.ob
        obtain ⟨hd7, hb7⟩ := HD6.out.set 5 (.string tw) (o' := (⟨4, noB, [], noB, [], tw, noB, 0, tg⟩ : Obj)) rfl rfl rfl
        have HD7 := Lib.hid hd7
        have HB7 := Lib.hid (HB6.out.trans hb7)
        clear hd7 hb7
        have HC8 := Lib.hid (rText_any HD7.out.rd (by have := HD7.out.sz; omega))
        have hle8 := rTxt_le st3
        obtain ⟨⟨tn, st4⟩, hq8⟩ : ∃ q, q = rTxt st3 := ⟨_, rfl⟩
        rw [← hq8] at HC8 hle8
        have HQ8 := Lib.hid hq8.symm
        have hsz8 : st4.1.size ≤ 8192 := Nat.le_trans hle8 HD7.out.sz
        clear hq8 hle8
        go_wp2_with fail
        (with_reducible refine HC8.out.mono ?_)
        rintro e w8 hto
        obtain ⟨rfl, hd8, hb8⟩ := HD7.out.read hto hsz8
        have HD8 := Lib.hid hd8
        have HB8 := Lib.hid (HB7.out.trans hb8)
        clear hto hd8 hb8 HC8 hsz8
        clear c0 c1 c2 c3 c4 c5 c6 c7 c8 z0 z1 z2 z3 z4 z5 z6 z7 z8
        obtain ⟨c0, c1, c2, c3, c4, c5, c6, c7, c8⟩ := ob_cells' HD8.out.ob
        obtain ⟨z0, z1, z2, z3, z4, z5, z6, z7, z8⟩ := ob_free' HD8.out.ob
        obtain ⟨hd9x, hb9x⟩ := HD8.out.set 6 (.string tn) (o' := (⟨4, noB, [], noB, [], tw, tn, 0, tg⟩ : Obj)) rfl rfl rfl
        have HD9x := Lib.hid hd9x
        have HB9x := Lib.hid (HB8.out.trans hb9x)
        clear hd9x hb9x
        obtain ⟨rr, er⟩ := st4
        have HRAW := Lib.hid (HFF.out.trans ((decodeF_some HNB.out (raw_4 HQ1'.out)).trans (show endF2 (rawG st1).1 (rawG st1).2 = endF2 (⟨4, noB, [], noB, [], tw, tn, 0, tg⟩ : Obj) (rr, er) by unfold rawG; simp only; rw [HQ4.out]; simp only; rw [HQ6.out]; simp only; rw [HQ8.out]; rfl)))
        have HKR := Lib.hid (show 1 ≤ (⟨4, noB, [], noB, [], tw, tn, 0, tg⟩ : Obj).kind ∧ (⟨4, noB, [], noB, [], tw, tn, 0, tg⟩ : Obj).kind ≤ 4 from ⟨(by decide : (1 : Int) ≤ 4), (by decide : (4 : Int) ≤ 4)⟩)
        have HCb := Lib.hid (rBad_any HD9x.out.rd)
        go_wp2_with fail
        (with_reducible refine HCb.out.mono ?_)
        rintro e w0 ⟨rfl, rfl⟩
        clear c0 c1 c2 c3 c4 c5 c6 c7 c8 z0 z1 z2 z3 z4 z5 z6 z7 z8
        obtain ⟨c0, c1, c2, c3, c4, c5, c6, c7, c8⟩ := ob_cells' HD9x.out.ob
        obtain ⟨z0, z1, z2, z3, z4, z5, z6, z7, z8⟩ := ob_free' HD9x.out.ob
        by_cases her : er = 0
        · subst her
          have HCl := Lib.hid (rLeft_any HD9x.out.rd)
          go_wp2_with fail
          (with_reducible refine HCl.out.mono ?_)
          rintro e w0 ⟨rfl, rfl⟩
          by_cases hleft : 0 < rr.size
          · have hF := HRAW.out.trans (endF2_left HKR.out hleft)
            subst hF
            have h1 : decide ((0 : Int) < (rr.size : Int)) = true := decide_eq_true (by omega)
            have h2 : decide (0 < rr.size) = true := decide_eq_true hleft
            clear hleft
            obtain ⟨r0, r1, r2, r3, r4, r5, r6, r7, r8⟩ := ob_cells' (o := zeroO) (ve := .slice none 0 0) (vp := .slice none 0 0) (HGR.out _ HB9x.out)
            obtain ⟨y0, y1, y2, y3, y4, y5, y6, y7, y8⟩ := ob_free' (o := zeroO) (ve := .slice none 0 0) (vp := .slice none 0 0) (HGR.out _ HB9x.out)
            go_wp2_with fail
            refine bodyPost_ret (v := .tuple #[.agg (objC zeroO (.slice none 0 0) (.slice none 0 0)).toArray, .int .i64 (2)]) ?_ rfl ⟨.slice none 0 0, .slice none 0 0, rfl, rdE_nil _, rdS_nil _, ?_⟩
            · simp [results, Try.f8, go_sem, objC, zeroO, noB, r0, r1, r2, r3, r4, r5, r6, r7, r8]
            · exact set9 (HW0.out.trans (HB9x.out.mono HW0.out.size)) (by have := HW0.out.size; omega) _ _ _ _ _ _ _ _ _
          · have h1 : decide ((0 : Int) < (rr.size : Int)) = false := decide_eq_false (by omega)
            have h2 : decide (0 < rr.size) = false := decide_eq_false hleft
            have HFG := Lib.hid (HRAW.out.trans (endF2_good (.inr (by omega))))
            clear hleft
            have HCg := Lib.hid (ogood_any _ _ _ _ (rdRow_of_owns HD9x.out.es) (rdRow_of_owns HD9x.out.ps))
            obtain ⟨gq, hgq⟩ : ∃ e : Int, e = goodF (⟨4, noB, [], noB, [], tw, tn, 0, tg⟩ : Obj) := ⟨_, rfl⟩
            have gob := HD9x.out.ob
            have HGQ := Lib.hid hgq
            rw [← hgq] at HCg HFG
            clear hgq
            go_wp2_with (first | (refine wpList_load_blk (by rfl) 25 (.tmp 5) rfl q rfl (.agg (objC (⟨4, noB, [], noB, [], tw, tn, 0, tg⟩ : Obj) _ _).toArray) rfl gob Try.underlying25 rfl (by kernel_rfl) ?_))
            (with_reducible refine HCg.out.mono ?_)
            rintro e w9 ⟨rfl, hb9⟩
            have HB9 := Lib.hid (HB9x.out.trans (hb9.mono HD9x.out.le.2.2))
            have HD9 := Lib.hid (HD9x.out.below hb9)
            clear hb9 gob HCg
            clear c0 c1 c2 c3 c4 c5 c6 c7 c8 z0 z1 z2 z3 z4 z5 z6 z7 z8
            obtain ⟨c0, c1, c2, c3, c4, c5, c6, c7, c8⟩ := ob_cells' HD9.out.ob
            obtain ⟨z0, z1, z2, z3, z4, z5, z6, z7, z8⟩ := ob_free' HD9.out.ob
            by_cases hg0 : gq = 0
            · have hF := HFG.out.trans (if_neg (by simpa using hg0))
              subst hF hg0
              have gob9 := HD9.out.ob
              have gR9 := HGR.out _ HB9.out
              have hone9 := HD9.out.one
              go_wp2_with (first | (refine wpList_load_blk (by rfl) 25 (.tmp 5) rfl q rfl (.agg (objC (⟨4, noB, [], noB, [], tw, tn, 0, tg⟩ : Obj) _ _).toArray) rfl gob9 Try.underlying25 rfl (by kernel_rfl) ?_) | (refine wpList_store_blk (by rfl) 25 (.tmp 2) (.tmp 128) rfl w.heap.size (objC (⟨4, noB, [], noB, [], tw, tn, 0, tg⟩ : Obj) _ _).toArray rfl rfl gR9 info_ob rfl hone9 ?_; intro wz hRz hUz))
              obtain ⟨r0, r1, r2, r3, r4, r5, r6, r7, r8⟩ := ob_cells' hRz
              have hlt : w.heap.size < W.heap.size := lt_of_block (HGR.out _ (Below.refl _ _))
              refine bodyPost_ret (v := .tuple #[.agg (objC (⟨4, noB, [], noB, [], tw, tn, 0, tg⟩ : Obj) (.slice none 0 0) (.slice none 0 0)).toArray, .int .i64 0]) ?_ rfl ⟨_, _, rfl, rdRow_of_owns (owns_upd HD9.out.es hUz (fun k hk e => by have := owns_ge HD9.out.es hk; omega)), rdRow_of_owns (owns_upd HD9.out.ps hUz (fun k hk e => by have := owns_ge HD9.out.ps hk; omega)), below_upd (HW0.out.trans (HB9.out.mono HW0.out.size)) hUz (Nat.le_refl _) (by have := HW0.out.size; have := HB9.out.size; omega)⟩
              simp [results, Try.f8, go_sem, objC, r0, r1, r2, r3, r4, r5, r6, r7, r8]
            · have h1 : (gq == 0) = false := beq_eq_false_iff_ne.2 hg0
              have h2 : (gq != 0) = true := by rw [bne, h1]; rfl
              have hF := HFG.out.trans (if_pos hg0)
              subst hF
              clear hg0
              obtain ⟨r0, r1, r2, r3, r4, r5, r6, r7, r8⟩ := ob_cells' (o := zeroO) (ve := .slice none 0 0) (vp := .slice none 0 0) (HGR.out _ HB9.out)
              obtain ⟨y0, y1, y2, y3, y4, y5, y6, y7, y8⟩ := ob_free' (o := zeroO) (ve := .slice none 0 0) (vp := .slice none 0 0) (HGR.out _ HB9.out)
              go_wp2_with fail
              refine bodyPost_ret (v := .tuple #[.agg (objC zeroO (.slice none 0 0) (.slice none 0 0)).toArray, .int .i64 (gq)]) ?_ rfl ⟨.slice none 0 0, .slice none 0 0, rfl, rdE_nil _, rdS_nil _, ?_⟩
              · simp [results, Try.f8, go_sem, objC, zeroO, noB, r0, r1, r2, r3, r4, r5, r6, r7, r8]
              · exact set9 (HW0.out.trans (HB9.out.mono HW0.out.size)) (by have := HW0.out.size; omega) _ _ _ _ _ _ _ _ _
        · have h1 : (er == 0) = false := beq_eq_false_iff_ne.2 her
          have h2 : (er != 0) = true := by rw [bne, h1]; rfl
          have hF := HRAW.out.trans (endF2_bad her)
          subst hF
          clear her
          obtain ⟨r0, r1, r2, r3, r4, r5, r6, r7, r8⟩ := ob_cells' (o := zeroO) (ve := .slice none 0 0) (vp := .slice none 0 0) (HGR.out _ HB9x.out)
          obtain ⟨y0, y1, y2, y3, y4, y5, y6, y7, y8⟩ := ob_free' (o := zeroO) (ve := .slice none 0 0) (vp := .slice none 0 0) (HGR.out _ HB9x.out)
          go_wp2_with fail
          refine bodyPost_ret (v := .tuple #[.agg (objC zeroO (.slice none 0 0) (.slice none 0 0)).toArray, .int .i64 (2)]) ?_ rfl ⟨.slice none 0 0, .slice none 0 0, rfl, rdE_nil _, rdS_nil _, ?_⟩
          · simp [results, Try.f8, go_sem, objC, zeroO, noB, r0, r1, r2, r3, r4, r5, r6, r7, r8]
          · exact set9 (HW0.out.trans (HB9x.out.mono HW0.out.size)) (by have := HW0.out.size; omega) _ _ _ _ _ _ _ _ _
      · by_cases k2 : K = 2
        · subst k2
          have HD3' := Lib.hid (show DecSt V W.heap.size g q st1 { zeroO with kind := 2 } (.slice none 0 0) (.slice none 0 0) from HD3.out)
          clear HD3
          have HD3 := Lib.hid HD3'.out
          clear HD3'
          have hV2 : w2.alloc (.cells #[.int .i64 2, .string ⟨#[]⟩, .slice none 0 0, .string ⟨#[]⟩, .slice none 0 0, .string ⟨#[]⟩, .string ⟨#[]⟩, .int .i64 0, .string ⟨#[]⟩] 25) = V := hV'
          clear hV'
          clear c0 c1 c2 c3 c4 c5 c6 c7 c8 z0 z1 z2 z3 z4 z5 z6 z7 z8
          obtain ⟨c0, c1, c2, c3, c4, c5, c6, c7, c8⟩ := ob_cells' HD3.out.ob
          obtain ⟨z0, z1, z2, z3, z4, z5, z6, z7, z8⟩ := ob_free' HD3.out.ob
          obtain ⟨i1, i2, i3, i4, i5, i6, i7, i8⟩ := ob_set_id HD3.out.ob
          have HC4 := Lib.hid (rNumber_any HD3.out.rd (by have := HD3.out.sz; unfold maxLen; omega))
          have hle4 := rNum_le st1
          obtain ⟨⟨cn, st2⟩, hq4⟩ : ∃ q, q = rNum st1 := ⟨_, rfl⟩
          rw [← hq4] at HC4 hle4
          have HQ4 := Lib.hid hq4.symm
          have hsz4 : st2.1.size ≤ 8192 := Nat.le_trans hle4 HD3.out.sz
          clear hq4 hle4
          go_wp2_with fail
          (with_reducible refine HC4.out.mono ?_)
          rintro e w4 hto
          obtain ⟨rfl, hd4, hb4⟩ := HD3.out.read hto hsz4
          have HD4 := Lib.hid hd4
          have HB4 := Lib.hid (HB3.out.trans hb4)
          clear hto hd4 hb4 HC4 hsz4
          clear c0 c1 c2 c3 c4 c5 c6 c7 c8 z0 z1 z2 z3 z4 z5 z6 z7 z8
          obtain ⟨c0, c1, c2, c3, c4, c5, c6, c7, c8⟩ := ob_cells' HD4.out.ob
          obtain ⟨z0, z1, z2, z3, z4, z5, z6, z7, z8⟩ := ob_free' HD4.out.ob
          clear i1 i2 i3 i4 i5 i6 i7 i8
          have hc62 : cn < 4611686018427387904 := by have := rNum_62 st1; rw [HQ4.out] at this; exact this
          have HFT := Lib.hid (HFF.out.trans (decodeF_T HNB.out HQ1'.out HQ4.out))
          have HST := Lib.hid (show st2.1.size ≤ 8192 from HD4.out.sz)
          clear HFF
          go_wp2_with fail
          go_loopw [6] (fun i wr => ∃ (n : Nat) (st : ByteArray × Int) (l : List Ent) (ve : Value), i = .int .i64 (n : Int) ∧ n < 4611686018427387904 ∧ (st.2 = 0 → l.length + st.1.size ≤ 8192) ∧ l.length ≤ 8193 ∧ DecSt wr W.heap.size g q st (⟨2, noB, l, noB, [], noB, noB, 0, noB⟩ : Obj) ve (.slice none 0 0) ∧ F = restT n st l ∧ Below W.heap.size W wr) (fun i _ => (intOf i).toNat)
          case atStart => exact ⟨cn, st2, [], _, rfl, hc62, fun _ => by have := HST.out; simp; omega, by simp, HD4.out, HFT.out, HB4.out⟩
          case round =>
            clear HFT HST HD4 HB4 HD3 HB3 c0 c1 c2 c3 c4 c5 c6 c7 c8 z0 z1 z2 z3 z4 z5 z6 z7 z8
            obtain ⟨n, st, l, ve, rfl, hn62, hsz, hl, hd, hF, hB⟩ := hrel
            obtain ⟨rr, er⟩ := st
            have HD5 := Lib.hid hd
            have HB5 := Lib.hid hB
            have HFL := Lib.hid hF
            have HSZ := Lib.hid hsz
            clear hd hB hF hsz
            obtain ⟨c0, c1, c2, c3, c4, c5, c6, c7, c8⟩ := ob_cells' HD5.out.ob
            obtain ⟨z0, z1, z2, z3, z4, z5, z6, z7, z8⟩ := ob_free' HD5.out.ob
            have HKR := Lib.hid (show 1 ≤ (⟨2, noB, l, noB, [], noB, noB, 0, noB⟩ : Obj).kind ∧ (⟨2, noB, l, noB, [], noB, noB, 0, noB⟩ : Obj).kind ≤ 4 from ⟨(by decide : (1 : Int) ≤ 2), (by decide : (2 : Int) ≤ 4)⟩)
            by_cases hpos : 0 < n
            · have hpi : decide ((0 : Int) < (n : Int)) = true := decide_eq_true (by omega)
              have hpn : decide (0 < n) = true := decide_eq_true hpos
              have HPOS := Lib.hid hpos
              have HCa := Lib.hid (rBad_any HD5.out.rd)
              clear hpos
              go_wp2_with fail
              (with_reducible refine HCa.out.mono ?_)
              rintro e w0 ⟨rfl, rfl⟩
              by_cases he0 : er = 0
              · subst he0
                have HLE := Lib.hid (show l.length + rr.size ≤ 8192 from HSZ.out rfl)
                have HLL := Lib.hid hl
                have HC6 := Lib.hid (rText_any HD5.out.rd (by have := HD5.out.sz; omega))
                have hle6 := rTxt_le (rr, 0)
                obtain ⟨⟨nm, s2⟩, hq6⟩ : ∃ q, q = rTxt (rr, 0) := ⟨_, rfl⟩
                rw [← hq6] at HC6 hle6
                have HQ6 := Lib.hid hq6.symm
                have hsz6 : s2.1.size ≤ 8192 := Nat.le_trans hle6 HD5.out.sz
                clear hq6 hle6
                go_wp2_with fail
                (with_reducible refine HC6.out.mono ?_)
                rintro e w6 hto
                obtain ⟨rfl, hd6, hb6⟩ := HD5.out.read hto hsz6
                have HD6 := Lib.hid hd6
                have HB6 := Lib.hid (HB5.out.trans hb6)
                clear hto hd6 hb6 HC6 hsz6
                clear c0 c1 c2 c3 c4 c5 c6 c7 c8 z0 z1 z2 z3 z4 z5 z6 z7 z8
                obtain ⟨c0, c1, c2, c3, c4, c5, c6, c7, c8⟩ := ob_cells' HD6.out.ob
                obtain ⟨z0, z1, z2, z3, z4, z5, z6, z7, z8⟩ := ob_free' HD6.out.ob
                obtain ⟨wx, hwx⟩ : ∃ wx, w6.alloc (.cells #[.string nm, .bool false, .string ⟨#[]⟩] 45) = wx := ⟨_, rfl⟩
                obtain ⟨x, hxd⟩ : ∃ x, w6.heap.size = x := ⟨_, rfl⟩
                have hbx : Below w6.heap.size w6 wx := by rw [← hwx]; exact (Below.refl _ _).alloc (Nat.le_refl _) _
                have HXE := Lib.hid (show wx.heap[x]? = some (.cells #[.string nm, .bool false, .string ⟨#[]⟩] 45 (0, 0)) by rw [← hwx, ← hxd]; exact heap_alloc_new _ _)
                have HD6x := Lib.hid (HD6.out.below hbx)
                have HB6x := Lib.hid (HB6.out.trans (hbx.mono HD6.out.le.2.2))
                have HGX := Lib.hid (show g ≠ x ∧ W.heap.size ≤ x ∧ q ≠ x ∧ (∀ k, ve.ownBlock = some k → k ≠ x) from ⟨by have := lt_of_block HD6.out.rd.blk; omega, by have := HD6.out.le; omega, by have := lt_of_block HD6.out.ob; omega, fun k hk => by have := HD6.out.es.lt k hk; omega⟩)
                clear hbx
                have j1 := set_id HXE.out (i := 1) (v := .bool false) rfl
                have j2 := set_id HXE.out (i := 2) (v := .string ⟨#[]⟩) rfl
                obtain ⟨x0, x1, x2, e0, e1, e2⟩ := en_cells HXE.out
                have HC7 := Lib.hid (rNumber_any HD6x.out.rd (by have := HD6x.out.sz; unfold maxLen; omega))
                have hle7 := rNum_le s2
                obtain ⟨⟨d, s3⟩, hq7⟩ : ∃ q, q = rNum s2 := ⟨_, rfl⟩
                rw [← hq7] at HC7 hle7
                have HQ7 := Lib.hid hq7.symm
                have hsz7 : s3.1.size ≤ 8192 := Nat.le_trans hle7 HD6x.out.sz
                clear hq7 hle7
                go_wp2_with fail
                (with_reducible refine HC7.out.mono ?_)
                rintro e w7 hto
                have HXE := Lib.hid (blk_upd HXE.out hto.2.2 (fun e => HGX.out.1 e.symm))
                obtain ⟨rfl, hd7, hb7⟩ := HD6x.out.read hto hsz7
                have HD7 := Lib.hid hd7
                have HB7 := Lib.hid (HB6x.out.trans hb7)
                clear hto hd7 hb7 HC7 hsz7
                clear hwx hxd j1 j2
                clear x0 x1 x2 e0 e1 e2
                obtain ⟨x0, x1, x2, e0, e1, e2⟩ := en_cells HXE.out
                clear c0 c1 c2 c3 c4 c5 c6 c7 c8 z0 z1 z2 z3 z4 z5 z6 z7 z8
                obtain ⟨c0, c1, c2, c3, c4, c5, c6, c7, c8⟩ := ob_cells' HD7.out.ob
                obtain ⟨z0, z1, z2, z3, z4, z5, z6, z7, z8⟩ := ob_free' HD7.out.ob
                have HC8 := Lib.hid (rBytes_any HD7.out.rd (by have := HD7.out.sz; omega) 32)
                have hle8 := rByt_le s3 32
                obtain ⟨⟨id, s4⟩, hq8⟩ : ∃ q, q = rByt s3 32 := ⟨_, rfl⟩
                rw [← hq8] at HC8 hle8
                have HQ8 := Lib.hid hq8.symm
                have hsz8 : s4.1.size ≤ 8192 := Nat.le_trans hle8 HD7.out.sz
                clear hq8 hle8
                go_wp2_with fail
                (with_reducible refine HC8.out.mono ?_)
                rintro e w8 hto
                have HXE := Lib.hid (blk_upd HXE.out hto.2.2 (fun e => HGX.out.1 e.symm))
                obtain ⟨rfl, hd8, hb8⟩ := HD7.out.read hto hsz8
                have HD8 := Lib.hid hd8
                have HB8 := Lib.hid (HB7.out.trans hb8)
                clear hto hd8 hb8 HC8 hsz8
                clear x0 x1 x2 e0 e1 e2
                obtain ⟨x0, x1, x2, e0, e1, e2⟩ := en_cells HXE.out
                clear c0 c1 c2 c3 c4 c5 c6 c7 c8 z0 z1 z2 z3 z4 z5 z6 z7 z8
                obtain ⟨c0, c1, c2, c3, c4, c5, c6, c7, c8⟩ := ob_cells' HD8.out.ob
                obtain ⟨z0, z1, z2, z3, z4, z5, z6, z7, z8⟩ := ob_free' HD8.out.ob
                have HS4 := Lib.hid (show s4.2 = 0 → (l ++ [(⟨nm, decide (d = 1), id⟩ : Ent)]).length + s4.1.size ≤ 8192 from fun h0 => by have a1 := rByt_less HQ8.out h0; have a2 := rNum_le s2; rw [HQ7.out] at a2; have a3 := rTxt_le (rr, 0); rw [HQ6.out] at a3; have a4 := HLE.out; have a5 : s2.1.size ≤ rr.size := a3; have a6 : s3.1.size ≤ s2.1.size := a2; rw [List.length_append]; show l.length + 1 + _ ≤ _; omega)
                obtain ⟨b, hb⟩ : ∃ b, decide (d = 1) = b := ⟨_, rfl⟩
                have hb2 : ((d : Int) == 1) = b := by rw [← hb]; by_cases h : d = 1 <;> simp [h] <;> omega
                have HBD := Lib.hid hb
                have HX9 := Lib.hid (show (w8.setCell ⟨x, 2, none⟩ (.string id)).heap[x]? = some (.cells #[.string nm, .bool false, .string id] 45 (0, 0)) from cells_setCell HXE.out 2 _)
                have HX10 := Lib.hid (show ((w8.setCell ⟨x, 2, none⟩ (.string id)).setCell ⟨x, 1, none⟩ (.bool b)).heap[x]? = some (.cells #[.string nm, .bool b, .string id] 45 (0, 0)) from cells_setCell HX9.out 1 _)
                have HQ9 := Lib.hid (HD8.out.other ((Upd.refl (fun k => k = x) w8).setCell (a := ⟨x, 2, none⟩) (.inl rfl) (.string id)) HGX.out.1 HGX.out.2.2.1 HGX.out.2.2.2 (fun k hk => by cases hk) HGX.out.2.1)
                have HD9x := Lib.hid HQ9.out.1
                have HB9x := Lib.hid (HB8.out.trans HQ9.out.2)
                obtain ⟨xa0, xa1, xa2, ea0, ea1, ea2⟩ := en_cells HX9.out
                by_cases hd1 : 1 < d
                · have hF := HFL.out.trans (restT_wide HPOS.out HQ6.out HQ7.out hd1)
                  subst hF
                  have g1 : decide ((1 : Int) < (d : Int)) = true := decide_eq_true (by omega)
                  have g2 : decide (1 < d) = true := decide_eq_true hd1
                  clear hd1 hb hb2
                  obtain ⟨r0, r1, r2, r3, r4, r5, r6, r7, r8⟩ := ob_cells' (o := zeroO) (ve := .slice none 0 0) (vp := .slice none 0 0) (HGR.out _ HB9x.out)
                  obtain ⟨y0, y1, y2, y3, y4, y5, y6, y7, y8⟩ := ob_free' (o := zeroO) (ve := .slice none 0 0) (vp := .slice none 0 0) (HGR.out _ HB9x.out)
                  go_wp2_with fail
                  refine bodyPost_ret (v := .tuple #[.agg (objC zeroO (.slice none 0 0) (.slice none 0 0)).toArray, .int .i64 (2)]) ?_ rfl ⟨.slice none 0 0, .slice none 0 0, rfl, rdE_nil _, rdS_nil _, ?_⟩
                  · simp [results, Try.f8, go_sem, objC, zeroO, noB, r0, r1, r2, r3, r4, r5, r6, r7, r8]
                  · exact set9 (HW0.out.trans (HB9x.out.mono HW0.out.size)) (by have := HW0.out.size; omega) _ _ _ _ _ _ _ _ _
                · have HF2 := Lib.hid (HFL.out.trans (restT_step HPOS.out HQ6.out HQ7.out hd1 HQ8.out))
                  have g1 : decide ((1 : Int) < (d : Int)) = false := decide_eq_false (by omega)
                  have g2 : decide (1 < d) = false := decide_eq_false hd1
                  rw [hb] at HF2 HS4
                  have HQ10 := Lib.hid (HD9x.out.other ((Upd.refl (fun k => k = x) _).setCell (a := ⟨x, 1, none⟩) (.inl rfl) (.bool b)) HGX.out.1 HGX.out.2.2.1 HGX.out.2.2.2 (fun k hk => by cases hk) HGX.out.2.1)
                  have HD10 := Lib.hid HQ10.out.1
                  have HB10 := Lib.hid (HB9x.out.trans HQ10.out.2)
                  obtain ⟨xb0, xb1, xb2, eb0, eb1, eb2⟩ := en_cells HX10.out
                  have HSZC := Lib.hid (show ((w8.setCell ⟨x, 2, none⟩ (.string id)).setCell ⟨x, 1, none⟩ (.bool b)).heap.size = w8.heap.size by simp [World.setCell])
                  clear hd1 HQ9 HQ10
                  clear c0 c1 c2 c3 c4 c5 c6 c7 c8 z0 z1 z2 z3 z4 z5 z6 z7 z8
                  obtain ⟨c0, c1, c2, c3, c4, c5, c6, c7, c8⟩ := ob_cells' HD10.out.ob
                  obtain ⟨z0, z1, z2, z3, z4, z5, z6, z7, z8⟩ := ob_free' HD10.out.ob
                  go_wp2_with (first | (at_builtin; refine wpList_append1u rfl _ _ 22 rfl info_entry Try.underlying22 rfl (by decide) (by decide) HD10.out.es HB10.out.size rfl (by simp [Value.oneCell']) (by have := HLL.out; show (l.length + 1) * 40 ≤ _; omega) rfl (by rw [HSZC.out]; rfl) ?_; intro v' w' hown' hupd'; have HOW := Lib.hid (show w'.ownsRow W.heap.size 45 3 v' (l ++ [(⟨nm, b, id⟩ : Ent)]).length (evs (l ++ [(⟨nm, b, id⟩ : Ent)])) by rw [evs_append, List.length_append]; exact hown'); have HUP := Lib.hid hupd'; obtain ⟨ao6, cp6, rfl⟩ := owns_slice HOW.out; clear hown' hupd' c0 c1 c2 c3 c4 c5 c6 c7 c8 z0 z1 z2 z3 z4 z5 z6 z7 z8; obtain ⟨c0, c1, c2, c3, c4, c5, c6, c7, c8⟩ := ob_cells' (blk_upd HD10.out.ob HUP.out HD10.out.far.2.2.1); obtain ⟨z0, z1, z2, z3, z4, z5, z6, z7, z8⟩ := ob_free' (blk_upd HD10.out.ob HUP.out HD10.out.far.2.2.1)))
                  have hap := HD10.out.appE (o' := ⟨2, noB, (l ++ [(⟨nm, b, id⟩ : Ent)]), noB, [], noB, noB, 0, noB⟩) HOW.out HUP.out rfl
                  have hp := HPOS.out
                  simp only [List.length_append, List.length_cons, List.length_nil, Nat.zero_add] at hap
                  exact ⟨⟨n - 1, s4, (l ++ [(⟨nm, b, id⟩ : Ent)]), _, by first | rfl | go_num, by omega, HS4.out, by have := HLE.out; simp; omega, hap.1, HF2.out, HB10.out.trans hap.2⟩, by have := HPOS.out; simp [intOf]; omega⟩
              · have h1 : (er == 0) = false := beq_eq_false_iff_ne.2 he0
                have h2 : (er != 0) = true := by rw [bne, h1]; rfl
                have hF := HFL.out.trans ((restT_end (.inr he0)).trans (endF2_bad he0))
                subst hF
                clear he0
                have HCb := Lib.hid (rBad_any HD5.out.rd)
                go_wp2_with fail
                (with_reducible refine HCb.out.mono ?_)
                rintro e w0 ⟨rfl, rfl⟩
                obtain ⟨r0, r1, r2, r3, r4, r5, r6, r7, r8⟩ := ob_cells' (o := zeroO) (ve := .slice none 0 0) (vp := .slice none 0 0) (HGR.out _ HB5.out)
                obtain ⟨y0, y1, y2, y3, y4, y5, y6, y7, y8⟩ := ob_free' (o := zeroO) (ve := .slice none 0 0) (vp := .slice none 0 0) (HGR.out _ HB5.out)
                go_wp2_with fail
                refine bodyPost_ret (v := .tuple #[.agg (objC zeroO (.slice none 0 0) (.slice none 0 0)).toArray, .int .i64 (2)]) ?_ rfl ⟨.slice none 0 0, .slice none 0 0, rfl, rdE_nil _, rdS_nil _, ?_⟩
                · simp [results, Try.f8, go_sem, objC, zeroO, noB, r0, r1, r2, r3, r4, r5, r6, r7, r8]
                · exact set9 (HW0.out.trans (HB5.out.mono HW0.out.size)) (by have := HW0.out.size; omega) _ _ _ _ _ _ _ _ _
            · have hpi : decide ((0 : Int) < (n : Int)) = false := decide_eq_false (by omega)
              have hpn : decide (0 < n) = false := decide_eq_false hpos
              have HRAW := Lib.hid (HFL.out.trans (restT_end (.inl (by omega))))
              clear hpos
              have HCb := Lib.hid (rBad_any HD5.out.rd)
              go_wp2_with fail
              (with_reducible refine HCb.out.mono ?_)
              rintro e w0 ⟨rfl, rfl⟩
              clear c0 c1 c2 c3 c4 c5 c6 c7 c8 z0 z1 z2 z3 z4 z5 z6 z7 z8
              obtain ⟨c0, c1, c2, c3, c4, c5, c6, c7, c8⟩ := ob_cells' HD5.out.ob
              obtain ⟨z0, z1, z2, z3, z4, z5, z6, z7, z8⟩ := ob_free' HD5.out.ob
              by_cases her : er = 0
              · subst her
                have HCl := Lib.hid (rLeft_any HD5.out.rd)
                go_wp2_with fail
                (with_reducible refine HCl.out.mono ?_)
                rintro e w0 ⟨rfl, rfl⟩
                by_cases hleft : 0 < rr.size
                · have hF := HRAW.out.trans (endF2_left HKR.out hleft)
                  subst hF
                  have h1 : decide ((0 : Int) < (rr.size : Int)) = true := decide_eq_true (by omega)
                  have h2 : decide (0 < rr.size) = true := decide_eq_true hleft
                  clear hleft
                  obtain ⟨r0, r1, r2, r3, r4, r5, r6, r7, r8⟩ := ob_cells' (o := zeroO) (ve := .slice none 0 0) (vp := .slice none 0 0) (HGR.out _ HB5.out)
                  obtain ⟨y0, y1, y2, y3, y4, y5, y6, y7, y8⟩ := ob_free' (o := zeroO) (ve := .slice none 0 0) (vp := .slice none 0 0) (HGR.out _ HB5.out)
                  go_wp2_with fail
                  refine bodyPost_ret (v := .tuple #[.agg (objC zeroO (.slice none 0 0) (.slice none 0 0)).toArray, .int .i64 (2)]) ?_ rfl ⟨.slice none 0 0, .slice none 0 0, rfl, rdE_nil _, rdS_nil _, ?_⟩
                  · simp [results, Try.f8, go_sem, objC, zeroO, noB, r0, r1, r2, r3, r4, r5, r6, r7, r8]
                  · exact set9 (HW0.out.trans (HB5.out.mono HW0.out.size)) (by have := HW0.out.size; omega) _ _ _ _ _ _ _ _ _
                · have h1 : decide ((0 : Int) < (rr.size : Int)) = false := decide_eq_false (by omega)
                  have h2 : decide (0 < rr.size) = false := decide_eq_false hleft
                  have HFG := Lib.hid (HRAW.out.trans (endF2_good (.inr (by omega))))
                  clear hleft
                  have HCg := Lib.hid (ogood_any _ _ _ _ (rdRow_of_owns HD5.out.es) (rdRow_of_owns HD5.out.ps))
                  obtain ⟨gq, hgq⟩ : ∃ e : Int, e = goodF (⟨2, noB, l, noB, [], noB, noB, 0, noB⟩ : Obj) := ⟨_, rfl⟩
                  have gob := HD5.out.ob
                  have HGQ := Lib.hid hgq
                  rw [← hgq] at HCg HFG
                  clear hgq
                  go_wp2_with (first | (refine wpList_load_blk (by rfl) 25 (.tmp 5) rfl q rfl (.agg (objC (⟨2, noB, l, noB, [], noB, noB, 0, noB⟩ : Obj) _ _).toArray) rfl gob Try.underlying25 rfl (by kernel_rfl) ?_))
                  (with_reducible refine HCg.out.mono ?_)
                  rintro e w9 ⟨rfl, hb9⟩
                  have HB9 := Lib.hid (HB5.out.trans (hb9.mono HD5.out.le.2.2))
                  have HD9 := Lib.hid (HD5.out.below hb9)
                  clear hb9 gob HCg
                  clear c0 c1 c2 c3 c4 c5 c6 c7 c8 z0 z1 z2 z3 z4 z5 z6 z7 z8
                  obtain ⟨c0, c1, c2, c3, c4, c5, c6, c7, c8⟩ := ob_cells' HD9.out.ob
                  obtain ⟨z0, z1, z2, z3, z4, z5, z6, z7, z8⟩ := ob_free' HD9.out.ob
                  by_cases hg0 : gq = 0
                  · have hF := HFG.out.trans (if_neg (by simpa using hg0))
                    subst hF hg0
                    have gob9 := HD9.out.ob
                    have gR9 := HGR.out _ HB9.out
                    have hone9 := HD9.out.one
                    go_wp2_with (first | (refine wpList_load_blk (by rfl) 25 (.tmp 5) rfl q rfl (.agg (objC (⟨2, noB, l, noB, [], noB, noB, 0, noB⟩ : Obj) _ _).toArray) rfl gob9 Try.underlying25 rfl (by kernel_rfl) ?_) | (refine wpList_store_blk (by rfl) 25 (.tmp 2) (.tmp 128) rfl w.heap.size (objC (⟨2, noB, l, noB, [], noB, noB, 0, noB⟩ : Obj) _ _).toArray rfl rfl gR9 info_ob rfl hone9 ?_; intro wz hRz hUz))
                    obtain ⟨r0, r1, r2, r3, r4, r5, r6, r7, r8⟩ := ob_cells' hRz
                    have hlt : w.heap.size < W.heap.size := lt_of_block (HGR.out _ (Below.refl _ _))
                    refine bodyPost_ret (v := .tuple #[.agg (objC (⟨2, noB, l, noB, [], noB, noB, 0, noB⟩ : Obj) ve (.slice none 0 0)).toArray, .int .i64 0]) ?_ rfl ⟨_, _, rfl, rdRow_of_owns (owns_upd HD9.out.es hUz (fun k hk e => by have := owns_ge HD9.out.es hk; omega)), rdRow_of_owns (owns_upd HD9.out.ps hUz (fun k hk e => by have := owns_ge HD9.out.ps hk; omega)), below_upd (HW0.out.trans (HB9.out.mono HW0.out.size)) hUz (Nat.le_refl _) (by have := HW0.out.size; have := HB9.out.size; omega)⟩
                    simp [results, Try.f8, go_sem, objC, r0, r1, r2, r3, r4, r5, r6, r7, r8]
                  · have h1 : (gq == 0) = false := beq_eq_false_iff_ne.2 hg0
                    have h2 : (gq != 0) = true := by rw [bne, h1]; rfl
                    have hF := HFG.out.trans (if_pos hg0)
                    subst hF
                    clear hg0
                    obtain ⟨r0, r1, r2, r3, r4, r5, r6, r7, r8⟩ := ob_cells' (o := zeroO) (ve := .slice none 0 0) (vp := .slice none 0 0) (HGR.out _ HB9.out)
                    obtain ⟨y0, y1, y2, y3, y4, y5, y6, y7, y8⟩ := ob_free' (o := zeroO) (ve := .slice none 0 0) (vp := .slice none 0 0) (HGR.out _ HB9.out)
                    go_wp2_with fail
                    refine bodyPost_ret (v := .tuple #[.agg (objC zeroO (.slice none 0 0) (.slice none 0 0)).toArray, .int .i64 (gq)]) ?_ rfl ⟨.slice none 0 0, .slice none 0 0, rfl, rdE_nil _, rdS_nil _, ?_⟩
                    · simp [results, Try.f8, go_sem, objC, zeroO, noB, r0, r1, r2, r3, r4, r5, r6, r7, r8]
                    · exact set9 (HW0.out.trans (HB9.out.mono HW0.out.size)) (by have := HW0.out.size; omega) _ _ _ _ _ _ _ _ _
              · have h1 : (er == 0) = false := beq_eq_false_iff_ne.2 her
                have h2 : (er != 0) = true := by rw [bne, h1]; rfl
                have hF := HRAW.out.trans (endF2_bad her)
                subst hF
                clear her
                obtain ⟨r0, r1, r2, r3, r4, r5, r6, r7, r8⟩ := ob_cells' (o := zeroO) (ve := .slice none 0 0) (vp := .slice none 0 0) (HGR.out _ HB5.out)
                obtain ⟨y0, y1, y2, y3, y4, y5, y6, y7, y8⟩ := ob_free' (o := zeroO) (ve := .slice none 0 0) (vp := .slice none 0 0) (HGR.out _ HB5.out)
                go_wp2_with fail
                refine bodyPost_ret (v := .tuple #[.agg (objC zeroO (.slice none 0 0) (.slice none 0 0)).toArray, .int .i64 (2)]) ?_ rfl ⟨.slice none 0 0, .slice none 0 0, rfl, rdE_nil _, rdS_nil _, ?_⟩
                · simp [results, Try.f8, go_sem, objC, zeroO, noB, r0, r1, r2, r3, r4, r5, r6, r7, r8]
                · exact set9 (HW0.out.trans (HB5.out.mono HW0.out.size)) (by have := HW0.out.size; omega) _ _ _ _ _ _ _ _ _
        · by_cases k3 : K = 3
          · subst k3
            have HD3' := Lib.hid (show DecSt V W.heap.size g q st1 { zeroO with kind := 3 } (.slice none 0 0) (.slice none 0 0) from HD3.out)
            clear HD3
            have HD3 := Lib.hid HD3'.out
            clear HD3'
            have hV2 : w2.alloc (.cells #[.int .i64 3, .string ⟨#[]⟩, .slice none 0 0, .string ⟨#[]⟩, .slice none 0 0, .string ⟨#[]⟩, .string ⟨#[]⟩, .int .i64 0, .string ⟨#[]⟩] 25) = V := hV'
            clear hV'
            clear c0 c1 c2 c3 c4 c5 c6 c7 c8 z0 z1 z2 z3 z4 z5 z6 z7 z8
            obtain ⟨c0, c1, c2, c3, c4, c5, c6, c7, c8⟩ := ob_cells' HD3.out.ob
            obtain ⟨z0, z1, z2, z3, z4, z5, z6, z7, z8⟩ := ob_free' HD3.out.ob
            obtain ⟨i1, i2, i3, i4, i5, i6, i7, i8⟩ := ob_set_id HD3.out.ob
            have HC4 := Lib.hid (rBytes_any HD3.out.rd (by have := HD3.out.sz; omega) 32)
            have hle4 := rByt_le st1 32
            obtain ⟨⟨tr, st2⟩, hq4⟩ : ∃ q, q = rByt st1 32 := ⟨_, rfl⟩
            rw [← hq4] at HC4 hle4
            have HQ4 := Lib.hid hq4.symm
            have hsz4 : st2.1.size ≤ 8192 := Nat.le_trans hle4 HD3.out.sz
            clear hq4 hle4
            go_wp2_with fail
            (with_reducible refine HC4.out.mono ?_)
            rintro e w4 hto
            obtain ⟨rfl, hd4, hb4⟩ := HD3.out.read hto hsz4
            have HD4 := Lib.hid hd4
            have HB4 := Lib.hid (HB3.out.trans hb4)
            clear hto hd4 hb4 HC4 hsz4
            clear c0 c1 c2 c3 c4 c5 c6 c7 c8 z0 z1 z2 z3 z4 z5 z6 z7 z8
            obtain ⟨c0, c1, c2, c3, c4, c5, c6, c7, c8⟩ := ob_cells' HD4.out.ob
            obtain ⟨z0, z1, z2, z3, z4, z5, z6, z7, z8⟩ := ob_free' HD4.out.ob
            obtain ⟨hd5a, hb5a⟩ := HD4.out.set 3 (.string tr) (o' := (⟨3, noB, [], tr, [], noB, noB, 0, noB⟩ : Obj)) rfl rfl rfl
            have HD5a := Lib.hid hd5a
            have HB5a := Lib.hid (HB4.out.trans hb5a)
            clear hd5a hb5a
            clear i1 i2 i3 i4 i5 i6 i7 i8
            have HC6a := Lib.hid (rNumber_any HD5a.out.rd (by have := HD5a.out.sz; unfold maxLen; omega))
            have hle6a := rNum_le st2
            obtain ⟨⟨cn, st3⟩, hq6a⟩ : ∃ q, q = rNum st2 := ⟨_, rfl⟩
            rw [← hq6a] at HC6a hle6a
            have HQ6a := Lib.hid hq6a.symm
            have hsz6a : st3.1.size ≤ 8192 := Nat.le_trans hle6a HD5a.out.sz
            clear hq6a hle6a
            go_wp2_with fail
            (with_reducible refine HC6a.out.mono ?_)
            rintro e w6a hto
            obtain ⟨rfl, hd6a, hb6a⟩ := HD5a.out.read hto hsz6a
            have HD6a := Lib.hid hd6a
            have HB6a := Lib.hid (HB5a.out.trans hb6a)
            clear hto hd6a hb6a HC6a hsz6a
            clear c0 c1 c2 c3 c4 c5 c6 c7 c8 z0 z1 z2 z3 z4 z5 z6 z7 z8
            obtain ⟨c0, c1, c2, c3, c4, c5, c6, c7, c8⟩ := ob_cells' HD6a.out.ob
            obtain ⟨z0, z1, z2, z3, z4, z5, z6, z7, z8⟩ := ob_free' HD6a.out.ob
            have hc62 : cn < 4611686018427387904 := by have := rNum_62 st2; rw [HQ6a.out] at this; exact this
            have HFT := Lib.hid (HFF.out.trans (decodeF_C HNB.out HQ1'.out HQ4.out HQ6a.out))
            have HST := Lib.hid (show st3.1.size ≤ 8192 from HD6a.out.sz)
            clear HFF
            go_wp2_with fail
            go_loopw [9] (fun i wr => ∃ (n : Nat) (st : ByteArray × Int) (l : List ByteArray) (vp : Value), i = .int .i64 (n : Int) ∧ n < 4611686018427387904 ∧ (st.2 = 0 → l.length + st.1.size ≤ 8192) ∧ l.length ≤ 8193 ∧ DecSt wr W.heap.size g q st (⟨3, noB, [], tr, l, noB, noB, 0, noB⟩ : Obj) (.slice none 0 0) vp ∧ F = restC tr n st l ∧ Below W.heap.size W wr) (fun i _ => (intOf i).toNat)
            case atStart => exact ⟨cn, st3, [], _, rfl, hc62, fun _ => by have := HST.out; simp; omega, by simp, HD6a.out, HFT.out, HB6a.out⟩
            case round =>
              clear HFT HST HD6a HB6a HD5a HB5a HD4 HB4 HD3 HB3 c0 c1 c2 c3 c4 c5 c6 c7 c8 z0 z1 z2 z3 z4 z5 z6 z7 z8
              obtain ⟨n, st, l, vp, rfl, hn62, hsz, hl, hd, hF, hB⟩ := hrel
              obtain ⟨ra, ea⟩ := st
              have HD5 := Lib.hid hd
              have HB5 := Lib.hid hB
              have HFL := Lib.hid hF
              have HSZ := Lib.hid hsz
              clear hd hB hF hsz
              obtain ⟨c0, c1, c2, c3, c4, c5, c6, c7, c8⟩ := ob_cells' HD5.out.ob
              obtain ⟨z0, z1, z2, z3, z4, z5, z6, z7, z8⟩ := ob_free' HD5.out.ob
              by_cases hpos : 0 < n
              · have hpi : decide ((0 : Int) < (n : Int)) = true := decide_eq_true (by omega)
                have hpn : decide (0 < n) = true := decide_eq_true hpos
                have HPOS := Lib.hid hpos
                have HCa := Lib.hid (rBad_any HD5.out.rd)
                clear hpos
                go_wp2_with fail
                (with_reducible refine HCa.out.mono ?_)
                rintro e w0 ⟨rfl, rfl⟩
                by_cases he0 : ea = 0
                · subst he0
                  have HLE := Lib.hid (show l.length + ra.size ≤ 8192 from HSZ.out rfl)
                  have HLL := Lib.hid hl
                  have HD5d := Lib.hid HD5.out.drew
                  have HB5d := Lib.hid HB5.out.drew
                  have HC6 := Lib.hid (rBytes_any HD5d.out.rd (by have := HD5d.out.sz; omega) 32)
                  have hle6 := rByt_le (ra, 0) 32
                  obtain ⟨⟨id, s2⟩, hq6⟩ : ∃ q, q = rByt (ra, 0) 32 := ⟨_, rfl⟩
                  rw [← hq6] at HC6 hle6
                  have HQ6 := Lib.hid hq6.symm
                  have hsz6 : s2.1.size ≤ 8192 := Nat.le_trans hle6 HD5.out.sz
                  have HS4 := Lib.hid (show s2.2 = 0 → (l ++ [id]).length + s2.1.size ≤ 8192 from fun h0 => by have a1 := rByt_less HQ6.out h0; have a4 := HLE.out; have a5 : s2.1.size < ra.size := a1; rw [List.length_append]; show l.length + 1 + _ ≤ _; omega)
                  clear hq6 hle6
                  go_wp2_with fail
                  refine Lone.wp_region_order [(0, false), (1, false), (2, false), (3, true), (4, true), (5, true), (6, false), (7, true)] (fun w' => w'.cell? ⟨q, 4, none⟩ = some vp) (by kernel_rfl) (by kernel_rfl) rfl (by kernel_rfl) (by intro _ _ d _ _ h; cases d <;> exact h) (c4) ?_; simp only [List.map_cons, List.map_nil, List.getElem?_toArray, List.getElem?_cons_zero, List.getElem?_cons_succ, Option.getD_some]
                  repeat (first | (refine Lone.ro_q (by rfl) (v := ?_) ?_ ?_; rotate_left; (focus (intro w' hSw; (try dsimp only at hSw); go_simp; try with_reducible rfl)); simp only [Act.put, List.setIfInBounds_toArray, List.set_cons_zero, List.set_cons_succ]) | (refine Lone.ro_skip (by rfl) ?_; simp only [Act.put, List.setIfInBounds_toArray, List.set_cons_zero, List.set_cons_succ]))
                  (refine Lone.ro_loud (by rfl) (fun K hK => ?_); go_simp)
                  (with_reducible refine HC6.out.mono ?_)
                  rintro e w6 hto
                  obtain ⟨rfl, hd6, hb6⟩ := HD5d.out.read hto hsz6
                  have HD6 := Lib.hid hd6
                  have HB6 := Lib.hid (HB5d.out.trans hb6)
                  clear hto hd6 hb6 HC6 hsz6
                  clear c0 c1 c2 c3 c4 c5 c6 c7 c8 z0 z1 z2 z3 z4 z5 z6 z7 z8
                  obtain ⟨c0, c1, c2, c3, c4, c5, c6, c7, c8⟩ := ob_cells' HD6.out.ob
                  obtain ⟨z0, z1, z2, z3, z4, z5, z6, z7, z8⟩ := ob_free' HD6.out.ob
                  (refine hK.out _ _ (fun w' => w'.cell? ⟨q, 4, none⟩ = some vp) (.inl fun _ h => h) (c4) ?_; clear hK K; try simp only [Act.put, List.setIfInBounds_toArray, List.set_cons_zero, List.set_cons_succ])
                  repeat (first | (refine Lone.ro_q (by rfl) (v := ?_) ?_ ?_; rotate_left; (focus (intro w' hSw; (try dsimp only at hSw); go_simp; try with_reducible rfl)); simp only [Act.put, List.setIfInBounds_toArray, List.set_cons_zero, List.set_cons_succ]) | (refine Lone.ro_skip (by rfl) ?_; simp only [Act.put, List.setIfInBounds_toArray, List.set_cons_zero, List.set_cons_succ]))
                  (refine Lone.ro_loud (by rfl) (fun K hK => ?_); go_simp)
                  have HD7 := Lib.hid (HD6.out.below (w' := w6.alloc (.cells #[.string id] 9)) ((Below.refl _ _).alloc (Nat.le_refl _) _))
                  (refine hK.out _ _ (fun w' => w'.cell? ⟨q, 4, none⟩ = some vp) (.inl fun _ h => h) ((ob_cells' HD7.out.ob).2.2.2.2.1) ?_; clear hK K; try simp only [Act.put, List.setIfInBounds_toArray, List.set_cons_zero, List.set_cons_succ])
                  repeat (first | (refine Lone.ro_q (by rfl) (v := ?_) ?_ ?_; rotate_left; (focus (intro w' hSw; (try dsimp only at hSw); go_simp; try with_reducible rfl)); simp only [Act.put, List.setIfInBounds_toArray, List.set_cons_zero, List.set_cons_succ]) | (refine Lone.ro_skip (by rfl) ?_; simp only [Act.put, List.setIfInBounds_toArray, List.set_cons_zero, List.set_cons_succ]))
                  refine Lone.ro_loud (by rfl) (fun K hK => ?_)
                  refine wp_append1u (.tmp 77) (.tmp 80) 23 rfl info_string Try.underlying23 rfl (by decide) HD6.out.ps HB6.out.size rfl (by have := HLL.out; show (l.length + 1) * 16 ≤ _; omega) rfl rfl ?_
                  intro v' w' hown' hupd'
                  have HOW := Lib.hid (show w'.ownsRow W.heap.size 9 1 v' (l ++ [id]).length (svs (l ++ [id])) by rw [svs_append, List.length_append]; exact hown')
                  have HUP := Lib.hid hupd'
                  obtain ⟨ao6, cp6, rfl⟩ := owns_slice HOW.out
                  clear c0 c1 c2 c3 c4 c5 c6 c7 c8 z0 z1 z2 z3 z4 z5 z6 z7 z8
                  obtain ⟨c0, c1, c2, c3, c4, c5, c6, c7, c8⟩ := ob_cells' (blk_upd HD6.out.ob HUP.out HD6.out.far.2.2.2.2.1)
                  obtain ⟨z0, z1, z2, z3, z4, z5, z6, z7, z8⟩ := ob_free' (blk_upd HD6.out.ob HUP.out HD6.out.far.2.2.2.2.1)
                  clear hown' hupd'
                  (refine hK.out _ _ (fun w' => w'.cell? ⟨q, 4, none⟩ = some vp) (.inl fun _ h => h) (c4) ?_; clear hK K; try simp only [Act.put, List.setIfInBounds_toArray, List.set_cons_zero, List.set_cons_succ])
                  repeat (first | (refine Lone.ro_q (by rfl) (v := ?_) ?_ ?_; rotate_left; (focus (intro w' hSw; (try dsimp only at hSw); go_simp; try with_reducible rfl)); simp only [Act.put, List.setIfInBounds_toArray, List.set_cons_zero, List.set_cons_succ]) | (refine Lone.ro_skip (by rfl) ?_; simp only [Act.put, List.setIfInBounds_toArray, List.set_cons_zero, List.set_cons_succ]))
                  (refine Lone.ro_loud (by rfl) (fun K hK => ?_); go_simp)
                  (refine hK.out _ _ (fun _ => True) (.inr (by kernel_rfl)) (trivial) ?_; clear hK K; try simp only [Act.put, List.setIfInBounds_toArray, List.set_cons_zero, List.set_cons_succ])
                  (refine Lone.ro_nil ?_; go_wp2_with fail)
                  have HF2 := HFL.out.trans (restC_step HPOS.out HQ6.out)
                  have hap := HD6.out.appP (o' := ⟨3, noB, [], tr, (l ++ [id]), noB, noB, 0, noB⟩) HOW.out HUP.out rfl
                  simp only [List.length_append, List.length_cons, List.length_nil, Nat.zero_add] at hap
                  have hp := HPOS.out
                  exact ⟨⟨n - 1, s2, l ++ [id], _, by first | rfl | go_num, by omega, HS4.out, by have := HLE.out; simp; omega, hap.1, HF2, HB6.out.trans hap.2⟩, by have := HPOS.out; simp [intOf]; omega⟩
                · have h1 : (ea == 0) = false := beq_eq_false_iff_ne.2 he0
                  have HNE := Lib.hid he0
                  clear he0
                  have HC6 := Lib.hid (rText_any HD5.out.rd (by have := HD5.out.sz; omega))
                  have hle6 := rTxt_le (ra, ea)
                  obtain ⟨⟨tw, s2⟩, hq6⟩ : ∃ q, q = rTxt (ra, ea) := ⟨_, rfl⟩
                  rw [← hq6] at HC6 hle6
                  have HQ6 := Lib.hid hq6.symm
                  have hsz6 : s2.1.size ≤ 8192 := Nat.le_trans hle6 HD5.out.sz
                  clear hq6 hle6
                  go_wp2_with fail
                  (with_reducible refine HC6.out.mono ?_)
                  rintro e w6 hto
                  obtain ⟨rfl, hd6, hb6⟩ := HD5.out.read hto hsz6
                  have HD6 := Lib.hid hd6
                  have HB6 := Lib.hid (HB5.out.trans hb6)
                  clear hto hd6 hb6 HC6 hsz6
                  clear c0 c1 c2 c3 c4 c5 c6 c7 c8 z0 z1 z2 z3 z4 z5 z6 z7 z8
                  obtain ⟨c0, c1, c2, c3, c4, c5, c6, c7, c8⟩ := ob_cells' HD6.out.ob
                  obtain ⟨z0, z1, z2, z3, z4, z5, z6, z7, z8⟩ := ob_free' HD6.out.ob
                  obtain ⟨hd7, hb7⟩ := HD6.out.set 5 (.string tw) (o' := (⟨3, noB, [], tr, l, tw, noB, 0, noB⟩ : Obj)) rfl rfl rfl
                  have HD7 := Lib.hid hd7
                  have HB7 := Lib.hid (HB6.out.trans hb7)
                  clear hd7 hb7
                  have HC8 := Lib.hid (rNumber_any HD7.out.rd (by have := HD7.out.sz; unfold maxLen; omega))
                  have hle8 := rNum_le s2
                  obtain ⟨⟨tt, s3⟩, hq8⟩ : ∃ q, q = rNum s2 := ⟨_, rfl⟩
                  rw [← hq8] at HC8 hle8
                  have HQ8 := Lib.hid hq8.symm
                  have hsz8 : s3.1.size ≤ 8192 := Nat.le_trans hle8 HD7.out.sz
                  clear hq8 hle8
                  go_wp2_with fail
                  (with_reducible refine HC8.out.mono ?_)
                  rintro e w8 hto
                  obtain ⟨rfl, hd8, hb8⟩ := HD7.out.read hto hsz8
                  have HD8 := Lib.hid hd8
                  have HB8 := Lib.hid (HB7.out.trans hb8)
                  clear hto hd8 hb8 HC8 hsz8
                  clear c0 c1 c2 c3 c4 c5 c6 c7 c8 z0 z1 z2 z3 z4 z5 z6 z7 z8
                  obtain ⟨c0, c1, c2, c3, c4, c5, c6, c7, c8⟩ := ob_cells' HD8.out.ob
                  obtain ⟨z0, z1, z2, z3, z4, z5, z6, z7, z8⟩ := ob_free' HD8.out.ob
                  obtain ⟨hd9x, hb9x⟩ := HD8.out.set 7 (.int .i64 (tt : Int)) (o' := (⟨3, noB, [], tr, l, tw, noB, (tt : Int), noB⟩ : Obj)) rfl rfl rfl
                  have HD9x := Lib.hid hd9x
                  have HB9x := Lib.hid (HB8.out.trans hb9x)
                  clear hd9x hb9x
                  have HC10 := Lib.hid (rText_any HD9x.out.rd (by have := HD9x.out.sz; omega))
                  have hle10 := rTxt_le s3
                  obtain ⟨⟨tn, s4⟩, hq10⟩ : ∃ q, q = rTxt s3 := ⟨_, rfl⟩
                  rw [← hq10] at HC10 hle10
                  have HQ10 := Lib.hid hq10.symm
                  have hsz10 : s4.1.size ≤ 8192 := Nat.le_trans hle10 HD9x.out.sz
                  clear hq10 hle10
                  go_wp2_with fail
                  (with_reducible refine HC10.out.mono ?_)
                  rintro e w10 hto
                  obtain ⟨rfl, hd10, hb10⟩ := HD9x.out.read hto hsz10
                  have HD10 := Lib.hid hd10
                  have HB10 := Lib.hid (HB9x.out.trans hb10)
                  clear hto hd10 hb10 HC10 hsz10
                  clear c0 c1 c2 c3 c4 c5 c6 c7 c8 z0 z1 z2 z3 z4 z5 z6 z7 z8
                  obtain ⟨c0, c1, c2, c3, c4, c5, c6, c7, c8⟩ := ob_cells' HD10.out.ob
                  obtain ⟨z0, z1, z2, z3, z4, z5, z6, z7, z8⟩ := ob_free' HD10.out.ob
                  obtain ⟨hd11, hb11⟩ := HD10.out.set 6 (.string tn) (o' := (⟨3, noB, [], tr, l, tw, tn, (tt : Int), noB⟩ : Obj)) rfl rfl rfl
                  have HD11 := Lib.hid hd11
                  have HB11 := Lib.hid (HB10.out.trans hb11)
                  clear hd11 hb11
                  obtain ⟨rr, er⟩ := s4
                  have HRAW := Lib.hid (HFL.out.trans (restC_end (.inr HNE.out) HQ6.out HQ8.out HQ10.out))
                  have HKR := Lib.hid (show 1 ≤ (⟨3, noB, [], tr, l, tw, tn, (tt : Int), noB⟩ : Obj).kind ∧ (⟨3, noB, [], tr, l, tw, tn, (tt : Int), noB⟩ : Obj).kind ≤ 4 from ⟨(by decide : (1 : Int) ≤ 3), (by decide : (3 : Int) ≤ 4)⟩)
                  clear HFL HQ6 HQ8 HQ10
                  have HCb := Lib.hid (rBad_any HD11.out.rd)
                  go_wp2_with fail
                  (with_reducible refine HCb.out.mono ?_)
                  rintro e w0 ⟨rfl, rfl⟩
                  clear c0 c1 c2 c3 c4 c5 c6 c7 c8 z0 z1 z2 z3 z4 z5 z6 z7 z8
                  obtain ⟨c0, c1, c2, c3, c4, c5, c6, c7, c8⟩ := ob_cells' HD11.out.ob
                  obtain ⟨z0, z1, z2, z3, z4, z5, z6, z7, z8⟩ := ob_free' HD11.out.ob
                  by_cases her : er = 0
                  · subst her
                    have HCl := Lib.hid (rLeft_any HD11.out.rd)
                    go_wp2_with fail
                    (with_reducible refine HCl.out.mono ?_)
                    rintro e w0 ⟨rfl, rfl⟩
                    by_cases hleft : 0 < rr.size
                    · have hF := HRAW.out.trans (endF2_left HKR.out hleft)
                      subst hF
                      have h1 : decide ((0 : Int) < (rr.size : Int)) = true := decide_eq_true (by omega)
                      have h2 : decide (0 < rr.size) = true := decide_eq_true hleft
                      clear hleft
                      obtain ⟨r0, r1, r2, r3, r4, r5, r6, r7, r8⟩ := ob_cells' (o := zeroO) (ve := .slice none 0 0) (vp := .slice none 0 0) (HGR.out _ HB11.out)
                      obtain ⟨y0, y1, y2, y3, y4, y5, y6, y7, y8⟩ := ob_free' (o := zeroO) (ve := .slice none 0 0) (vp := .slice none 0 0) (HGR.out _ HB11.out)
                      go_wp2_with fail
                      refine bodyPost_ret (v := .tuple #[.agg (objC zeroO (.slice none 0 0) (.slice none 0 0)).toArray, .int .i64 (2)]) ?_ rfl ⟨.slice none 0 0, .slice none 0 0, rfl, rdE_nil _, rdS_nil _, ?_⟩
                      · simp [results, Try.f8, go_sem, objC, zeroO, noB, r0, r1, r2, r3, r4, r5, r6, r7, r8]
                      · exact set9 (HW0.out.trans (HB11.out.mono HW0.out.size)) (by have := HW0.out.size; omega) _ _ _ _ _ _ _ _ _
                    · have h1 : decide ((0 : Int) < (rr.size : Int)) = false := decide_eq_false (by omega)
                      have h2 : decide (0 < rr.size) = false := decide_eq_false hleft
                      have HFG := Lib.hid (HRAW.out.trans (endF2_good (.inr (by omega))))
                      clear hleft
                      have HCg := Lib.hid (ogood_any _ _ _ _ (rdRow_of_owns HD11.out.es) (rdRow_of_owns HD11.out.ps))
                      obtain ⟨gq, hgq⟩ : ∃ e : Int, e = goodF (⟨3, noB, [], tr, l, tw, tn, (tt : Int), noB⟩ : Obj) := ⟨_, rfl⟩
                      have gob := HD11.out.ob
                      have HGQ := Lib.hid hgq
                      rw [← hgq] at HCg HFG
                      clear hgq
                      go_wp2_with (first | (refine wpList_load_blk (by rfl) 25 (.tmp 5) rfl q rfl (.agg (objC (⟨3, noB, [], tr, l, tw, tn, (tt : Int), noB⟩ : Obj) _ _).toArray) rfl gob Try.underlying25 rfl (by kernel_rfl) ?_))
                      (with_reducible refine HCg.out.mono ?_)
                      rintro e w9 ⟨rfl, hb9⟩
                      have HB9 := Lib.hid (HB11.out.trans (hb9.mono HD11.out.le.2.2))
                      have HD9 := Lib.hid (HD11.out.below hb9)
                      clear hb9 gob HCg
                      clear c0 c1 c2 c3 c4 c5 c6 c7 c8 z0 z1 z2 z3 z4 z5 z6 z7 z8
                      obtain ⟨c0, c1, c2, c3, c4, c5, c6, c7, c8⟩ := ob_cells' HD9.out.ob
                      obtain ⟨z0, z1, z2, z3, z4, z5, z6, z7, z8⟩ := ob_free' HD9.out.ob
                      by_cases hg0 : gq = 0
                      · have hF := HFG.out.trans (if_neg (by simpa using hg0))
                        subst hF hg0
                        have gob9 := HD9.out.ob
                        have gR9 := HGR.out _ HB9.out
                        have hone9 := HD9.out.one
                        go_wp2_with (first | (refine wpList_load_blk (by rfl) 25 (.tmp 5) rfl q rfl (.agg (objC (⟨3, noB, [], tr, l, tw, tn, (tt : Int), noB⟩ : Obj) _ _).toArray) rfl gob9 Try.underlying25 rfl (by kernel_rfl) ?_) | (refine wpList_store_blk (by rfl) 25 (.tmp 2) (.tmp 128) rfl w.heap.size (objC (⟨3, noB, [], tr, l, tw, tn, (tt : Int), noB⟩ : Obj) _ _).toArray rfl rfl gR9 info_ob rfl hone9 ?_; intro wz hRz hUz))
                        obtain ⟨r0, r1, r2, r3, r4, r5, r6, r7, r8⟩ := ob_cells' hRz
                        have hlt : w.heap.size < W.heap.size := lt_of_block (HGR.out _ (Below.refl _ _))
                        refine bodyPost_ret (v := .tuple #[.agg (objC (⟨3, noB, [], tr, l, tw, tn, (tt : Int), noB⟩ : Obj) (.slice none 0 0) vp).toArray, .int .i64 0]) ?_ rfl ⟨_, _, rfl, rdRow_of_owns (owns_upd HD9.out.es hUz (fun k hk e => by have := owns_ge HD9.out.es hk; omega)), rdRow_of_owns (owns_upd HD9.out.ps hUz (fun k hk e => by have := owns_ge HD9.out.ps hk; omega)), below_upd (HW0.out.trans (HB9.out.mono HW0.out.size)) hUz (Nat.le_refl _) (by have := HW0.out.size; have := HB9.out.size; omega)⟩
                        simp [results, Try.f8, go_sem, objC, r0, r1, r2, r3, r4, r5, r6, r7, r8]
                      · have h1 : (gq == 0) = false := beq_eq_false_iff_ne.2 hg0
                        have h2 : (gq != 0) = true := by rw [bne, h1]; rfl
                        have hF := HFG.out.trans (if_pos hg0)
                        subst hF
                        clear hg0
                        obtain ⟨r0, r1, r2, r3, r4, r5, r6, r7, r8⟩ := ob_cells' (o := zeroO) (ve := .slice none 0 0) (vp := .slice none 0 0) (HGR.out _ HB9.out)
                        obtain ⟨y0, y1, y2, y3, y4, y5, y6, y7, y8⟩ := ob_free' (o := zeroO) (ve := .slice none 0 0) (vp := .slice none 0 0) (HGR.out _ HB9.out)
                        go_wp2_with fail
                        refine bodyPost_ret (v := .tuple #[.agg (objC zeroO (.slice none 0 0) (.slice none 0 0)).toArray, .int .i64 (gq)]) ?_ rfl ⟨.slice none 0 0, .slice none 0 0, rfl, rdE_nil _, rdS_nil _, ?_⟩
                        · simp [results, Try.f8, go_sem, objC, zeroO, noB, r0, r1, r2, r3, r4, r5, r6, r7, r8]
                        · exact set9 (HW0.out.trans (HB9.out.mono HW0.out.size)) (by have := HW0.out.size; omega) _ _ _ _ _ _ _ _ _
                  · have h1 : (er == 0) = false := beq_eq_false_iff_ne.2 her
                    have h2 : (er != 0) = true := by rw [bne, h1]; rfl
                    have hF := HRAW.out.trans (endF2_bad her)
                    subst hF
                    clear her
                    obtain ⟨r0, r1, r2, r3, r4, r5, r6, r7, r8⟩ := ob_cells' (o := zeroO) (ve := .slice none 0 0) (vp := .slice none 0 0) (HGR.out _ HB11.out)
                    obtain ⟨y0, y1, y2, y3, y4, y5, y6, y7, y8⟩ := ob_free' (o := zeroO) (ve := .slice none 0 0) (vp := .slice none 0 0) (HGR.out _ HB11.out)
                    go_wp2_with fail
                    refine bodyPost_ret (v := .tuple #[.agg (objC zeroO (.slice none 0 0) (.slice none 0 0)).toArray, .int .i64 (2)]) ?_ rfl ⟨.slice none 0 0, .slice none 0 0, rfl, rdE_nil _, rdS_nil _, ?_⟩
                    · simp [results, Try.f8, go_sem, objC, zeroO, noB, r0, r1, r2, r3, r4, r5, r6, r7, r8]
                    · exact set9 (HW0.out.trans (HB11.out.mono HW0.out.size)) (by have := HW0.out.size; omega) _ _ _ _ _ _ _ _ _
              · have hpi : decide ((0 : Int) < (n : Int)) = false := decide_eq_false (by omega)
                have hpn : decide (0 < n) = false := decide_eq_false hpos
                have HNE := Lib.hid (show n = 0 by omega)
                clear hpos
                have HC6 := Lib.hid (rText_any HD5.out.rd (by have := HD5.out.sz; omega))
                have hle6 := rTxt_le (ra, ea)
                obtain ⟨⟨tw, s2⟩, hq6⟩ : ∃ q, q = rTxt (ra, ea) := ⟨_, rfl⟩
                rw [← hq6] at HC6 hle6
                have HQ6 := Lib.hid hq6.symm
                have hsz6 : s2.1.size ≤ 8192 := Nat.le_trans hle6 HD5.out.sz
                clear hq6 hle6
                go_wp2_with fail
                (with_reducible refine HC6.out.mono ?_)
                rintro e w6 hto
                obtain ⟨rfl, hd6, hb6⟩ := HD5.out.read hto hsz6
                have HD6 := Lib.hid hd6
                have HB6 := Lib.hid (HB5.out.trans hb6)
                clear hto hd6 hb6 HC6 hsz6
                clear c0 c1 c2 c3 c4 c5 c6 c7 c8 z0 z1 z2 z3 z4 z5 z6 z7 z8
                obtain ⟨c0, c1, c2, c3, c4, c5, c6, c7, c8⟩ := ob_cells' HD6.out.ob
                obtain ⟨z0, z1, z2, z3, z4, z5, z6, z7, z8⟩ := ob_free' HD6.out.ob
                obtain ⟨hd7, hb7⟩ := HD6.out.set 5 (.string tw) (o' := (⟨3, noB, [], tr, l, tw, noB, 0, noB⟩ : Obj)) rfl rfl rfl
                have HD7 := Lib.hid hd7
                have HB7 := Lib.hid (HB6.out.trans hb7)
                clear hd7 hb7
                have HC8 := Lib.hid (rNumber_any HD7.out.rd (by have := HD7.out.sz; unfold maxLen; omega))
                have hle8 := rNum_le s2
                obtain ⟨⟨tt, s3⟩, hq8⟩ : ∃ q, q = rNum s2 := ⟨_, rfl⟩
                rw [← hq8] at HC8 hle8
                have HQ8 := Lib.hid hq8.symm
                have hsz8 : s3.1.size ≤ 8192 := Nat.le_trans hle8 HD7.out.sz
                clear hq8 hle8
                go_wp2_with fail
                (with_reducible refine HC8.out.mono ?_)
                rintro e w8 hto
                obtain ⟨rfl, hd8, hb8⟩ := HD7.out.read hto hsz8
                have HD8 := Lib.hid hd8
                have HB8 := Lib.hid (HB7.out.trans hb8)
                clear hto hd8 hb8 HC8 hsz8
                clear c0 c1 c2 c3 c4 c5 c6 c7 c8 z0 z1 z2 z3 z4 z5 z6 z7 z8
                obtain ⟨c0, c1, c2, c3, c4, c5, c6, c7, c8⟩ := ob_cells' HD8.out.ob
                obtain ⟨z0, z1, z2, z3, z4, z5, z6, z7, z8⟩ := ob_free' HD8.out.ob
                obtain ⟨hd9x, hb9x⟩ := HD8.out.set 7 (.int .i64 (tt : Int)) (o' := (⟨3, noB, [], tr, l, tw, noB, (tt : Int), noB⟩ : Obj)) rfl rfl rfl
                have HD9x := Lib.hid hd9x
                have HB9x := Lib.hid (HB8.out.trans hb9x)
                clear hd9x hb9x
                have HC10 := Lib.hid (rText_any HD9x.out.rd (by have := HD9x.out.sz; omega))
                have hle10 := rTxt_le s3
                obtain ⟨⟨tn, s4⟩, hq10⟩ : ∃ q, q = rTxt s3 := ⟨_, rfl⟩
                rw [← hq10] at HC10 hle10
                have HQ10 := Lib.hid hq10.symm
                have hsz10 : s4.1.size ≤ 8192 := Nat.le_trans hle10 HD9x.out.sz
                clear hq10 hle10
                go_wp2_with fail
                (with_reducible refine HC10.out.mono ?_)
                rintro e w10 hto
                obtain ⟨rfl, hd10, hb10⟩ := HD9x.out.read hto hsz10
                have HD10 := Lib.hid hd10
                have HB10 := Lib.hid (HB9x.out.trans hb10)
                clear hto hd10 hb10 HC10 hsz10
                clear c0 c1 c2 c3 c4 c5 c6 c7 c8 z0 z1 z2 z3 z4 z5 z6 z7 z8
                obtain ⟨c0, c1, c2, c3, c4, c5, c6, c7, c8⟩ := ob_cells' HD10.out.ob
                obtain ⟨z0, z1, z2, z3, z4, z5, z6, z7, z8⟩ := ob_free' HD10.out.ob
                obtain ⟨hd11, hb11⟩ := HD10.out.set 6 (.string tn) (o' := (⟨3, noB, [], tr, l, tw, tn, (tt : Int), noB⟩ : Obj)) rfl rfl rfl
                have HD11 := Lib.hid hd11
                have HB11 := Lib.hid (HB10.out.trans hb11)
                clear hd11 hb11
                obtain ⟨rr, er⟩ := s4
                have HRAW := Lib.hid (HFL.out.trans (restC_end (.inl HNE.out) HQ6.out HQ8.out HQ10.out))
                have HKR := Lib.hid (show 1 ≤ (⟨3, noB, [], tr, l, tw, tn, (tt : Int), noB⟩ : Obj).kind ∧ (⟨3, noB, [], tr, l, tw, tn, (tt : Int), noB⟩ : Obj).kind ≤ 4 from ⟨(by decide : (1 : Int) ≤ 3), (by decide : (3 : Int) ≤ 4)⟩)
                clear HFL HQ6 HQ8 HQ10
                have HCb := Lib.hid (rBad_any HD11.out.rd)
                go_wp2_with fail
                (with_reducible refine HCb.out.mono ?_)
                rintro e w0 ⟨rfl, rfl⟩
                clear c0 c1 c2 c3 c4 c5 c6 c7 c8 z0 z1 z2 z3 z4 z5 z6 z7 z8
                obtain ⟨c0, c1, c2, c3, c4, c5, c6, c7, c8⟩ := ob_cells' HD11.out.ob
                obtain ⟨z0, z1, z2, z3, z4, z5, z6, z7, z8⟩ := ob_free' HD11.out.ob
                by_cases her : er = 0
                · subst her
                  have HCl := Lib.hid (rLeft_any HD11.out.rd)
                  go_wp2_with fail
                  (with_reducible refine HCl.out.mono ?_)
                  rintro e w0 ⟨rfl, rfl⟩
                  by_cases hleft : 0 < rr.size
                  · have hF := HRAW.out.trans (endF2_left HKR.out hleft)
                    subst hF
                    have h1 : decide ((0 : Int) < (rr.size : Int)) = true := decide_eq_true (by omega)
                    have h2 : decide (0 < rr.size) = true := decide_eq_true hleft
                    clear hleft
                    obtain ⟨r0, r1, r2, r3, r4, r5, r6, r7, r8⟩ := ob_cells' (o := zeroO) (ve := .slice none 0 0) (vp := .slice none 0 0) (HGR.out _ HB11.out)
                    obtain ⟨y0, y1, y2, y3, y4, y5, y6, y7, y8⟩ := ob_free' (o := zeroO) (ve := .slice none 0 0) (vp := .slice none 0 0) (HGR.out _ HB11.out)
                    go_wp2_with fail
                    refine bodyPost_ret (v := .tuple #[.agg (objC zeroO (.slice none 0 0) (.slice none 0 0)).toArray, .int .i64 (2)]) ?_ rfl ⟨.slice none 0 0, .slice none 0 0, rfl, rdE_nil _, rdS_nil _, ?_⟩
                    · simp [results, Try.f8, go_sem, objC, zeroO, noB, r0, r1, r2, r3, r4, r5, r6, r7, r8]
                    · exact set9 (HW0.out.trans (HB11.out.mono HW0.out.size)) (by have := HW0.out.size; omega) _ _ _ _ _ _ _ _ _
                  · have h1 : decide ((0 : Int) < (rr.size : Int)) = false := decide_eq_false (by omega)
                    have h2 : decide (0 < rr.size) = false := decide_eq_false hleft
                    have HFG := Lib.hid (HRAW.out.trans (endF2_good (.inr (by omega))))
                    clear hleft
                    have HCg := Lib.hid (ogood_any _ _ _ _ (rdRow_of_owns HD11.out.es) (rdRow_of_owns HD11.out.ps))
                    obtain ⟨gq, hgq⟩ : ∃ e : Int, e = goodF (⟨3, noB, [], tr, l, tw, tn, (tt : Int), noB⟩ : Obj) := ⟨_, rfl⟩
                    have gob := HD11.out.ob
                    have HGQ := Lib.hid hgq
                    rw [← hgq] at HCg HFG
                    clear hgq
                    go_wp2_with (first | (refine wpList_load_blk (by rfl) 25 (.tmp 5) rfl q rfl (.agg (objC (⟨3, noB, [], tr, l, tw, tn, (tt : Int), noB⟩ : Obj) _ _).toArray) rfl gob Try.underlying25 rfl (by kernel_rfl) ?_))
                    (with_reducible refine HCg.out.mono ?_)
                    rintro e w9 ⟨rfl, hb9⟩
                    have HB9 := Lib.hid (HB11.out.trans (hb9.mono HD11.out.le.2.2))
                    have HD9 := Lib.hid (HD11.out.below hb9)
                    clear hb9 gob HCg
                    clear c0 c1 c2 c3 c4 c5 c6 c7 c8 z0 z1 z2 z3 z4 z5 z6 z7 z8
                    obtain ⟨c0, c1, c2, c3, c4, c5, c6, c7, c8⟩ := ob_cells' HD9.out.ob
                    obtain ⟨z0, z1, z2, z3, z4, z5, z6, z7, z8⟩ := ob_free' HD9.out.ob
                    by_cases hg0 : gq = 0
                    · have hF := HFG.out.trans (if_neg (by simpa using hg0))
                      subst hF hg0
                      have gob9 := HD9.out.ob
                      have gR9 := HGR.out _ HB9.out
                      have hone9 := HD9.out.one
                      go_wp2_with (first | (refine wpList_load_blk (by rfl) 25 (.tmp 5) rfl q rfl (.agg (objC (⟨3, noB, [], tr, l, tw, tn, (tt : Int), noB⟩ : Obj) _ _).toArray) rfl gob9 Try.underlying25 rfl (by kernel_rfl) ?_) | (refine wpList_store_blk (by rfl) 25 (.tmp 2) (.tmp 128) rfl w.heap.size (objC (⟨3, noB, [], tr, l, tw, tn, (tt : Int), noB⟩ : Obj) _ _).toArray rfl rfl gR9 info_ob rfl hone9 ?_; intro wz hRz hUz))
                      obtain ⟨r0, r1, r2, r3, r4, r5, r6, r7, r8⟩ := ob_cells' hRz
                      have hlt : w.heap.size < W.heap.size := lt_of_block (HGR.out _ (Below.refl _ _))
                      refine bodyPost_ret (v := .tuple #[.agg (objC (⟨3, noB, [], tr, l, tw, tn, (tt : Int), noB⟩ : Obj) (.slice none 0 0) vp).toArray, .int .i64 0]) ?_ rfl ⟨_, _, rfl, rdRow_of_owns (owns_upd HD9.out.es hUz (fun k hk e => by have := owns_ge HD9.out.es hk; omega)), rdRow_of_owns (owns_upd HD9.out.ps hUz (fun k hk e => by have := owns_ge HD9.out.ps hk; omega)), below_upd (HW0.out.trans (HB9.out.mono HW0.out.size)) hUz (Nat.le_refl _) (by have := HW0.out.size; have := HB9.out.size; omega)⟩
                      simp [results, Try.f8, go_sem, objC, r0, r1, r2, r3, r4, r5, r6, r7, r8]
                    · have h1 : (gq == 0) = false := beq_eq_false_iff_ne.2 hg0
                      have h2 : (gq != 0) = true := by rw [bne, h1]; rfl
                      have hF := HFG.out.trans (if_pos hg0)
                      subst hF
                      clear hg0
                      obtain ⟨r0, r1, r2, r3, r4, r5, r6, r7, r8⟩ := ob_cells' (o := zeroO) (ve := .slice none 0 0) (vp := .slice none 0 0) (HGR.out _ HB9.out)
                      obtain ⟨y0, y1, y2, y3, y4, y5, y6, y7, y8⟩ := ob_free' (o := zeroO) (ve := .slice none 0 0) (vp := .slice none 0 0) (HGR.out _ HB9.out)
                      go_wp2_with fail
                      refine bodyPost_ret (v := .tuple #[.agg (objC zeroO (.slice none 0 0) (.slice none 0 0)).toArray, .int .i64 (gq)]) ?_ rfl ⟨.slice none 0 0, .slice none 0 0, rfl, rdE_nil _, rdS_nil _, ?_⟩
                      · simp [results, Try.f8, go_sem, objC, zeroO, noB, r0, r1, r2, r3, r4, r5, r6, r7, r8]
                      · exact set9 (HW0.out.trans (HB9.out.mono HW0.out.size)) (by have := HW0.out.size; omega) _ _ _ _ _ _ _ _ _
                · have h1 : (er == 0) = false := beq_eq_false_iff_ne.2 her
                  have h2 : (er != 0) = true := by rw [bne, h1]; rfl
                  have hF := HRAW.out.trans (endF2_bad her)
                  subst hF
                  clear her
                  obtain ⟨r0, r1, r2, r3, r4, r5, r6, r7, r8⟩ := ob_cells' (o := zeroO) (ve := .slice none 0 0) (vp := .slice none 0 0) (HGR.out _ HB11.out)
                  obtain ⟨y0, y1, y2, y3, y4, y5, y6, y7, y8⟩ := ob_free' (o := zeroO) (ve := .slice none 0 0) (vp := .slice none 0 0) (HGR.out _ HB11.out)
                  go_wp2_with fail
                  refine bodyPost_ret (v := .tuple #[.agg (objC zeroO (.slice none 0 0) (.slice none 0 0)).toArray, .int .i64 (2)]) ?_ rfl ⟨.slice none 0 0, .slice none 0 0, rfl, rdE_nil _, rdS_nil _, ?_⟩
                  · simp [results, Try.f8, go_sem, objC, zeroO, noB, r0, r1, r2, r3, r4, r5, r6, r7, r8]
                  · exact set9 (HW0.out.trans (HB11.out.mono HW0.out.size)) (by have := HW0.out.size; omega) _ _ _ _ _ _ _ _ _
          · have k0 := k3
            obtain ⟨i1, i2, i3, i4, i5, i6, i7, i8⟩ := ob_set_id HD3.out.ob
            obtain ⟨rr, er⟩ := st1
            have HRAW := Lib.hid (HFF.out.trans (decodeF_some HNB.out (raw_0 HQ1'.out k1 k2 k3 k4)))
            have HKR := Lib.hid (show ¬ (1 ≤ ({ zeroO with kind := (K : Int) } : Obj).kind ∧ ({ zeroO with kind := (K : Int) } : Obj).kind ≤ 4) from fun h => by have h1 : (1 : Int) ≤ (K : Int) := h.1; have h2 : (K : Int) ≤ 4 := h.2; omega)
            have q1 : ((K : Int) == 1) = false := beq_eq_false_iff_ne.2 (by omega)
            have q2 : ((K : Int) == 2) = false := beq_eq_false_iff_ne.2 (by omega)
            have q3 : ((K : Int) == 3) = false := beq_eq_false_iff_ne.2 (by omega)
            have q4 : ((K : Int) == 4) = false := beq_eq_false_iff_ne.2 (by omega)
            rcases Nat.eq_zero_or_pos K with hK0 | hK0
            · have j1 : decide ((1 : Int) ≤ (K : Int)) = false := decide_eq_false (by omega)
              have j1n : decide (1 ≤ K) = false := decide_eq_false (by omega)
              clear k0 k1 k2 k3 k4 hK0
              have HCb := Lib.hid (rBad_any HD3.out.rd)
              go_wp2_with fail
              (with_reducible refine HCb.out.mono ?_)
              rintro e w0 ⟨rfl, rfl⟩
              clear c0 c1 c2 c3 c4 c5 c6 c7 c8 z0 z1 z2 z3 z4 z5 z6 z7 z8
              obtain ⟨c0, c1, c2, c3, c4, c5, c6, c7, c8⟩ := ob_cells' HD3.out.ob
              obtain ⟨z0, z1, z2, z3, z4, z5, z6, z7, z8⟩ := ob_free' HD3.out.ob
              by_cases her : er = 0
              · subst her
                have HFG := Lib.hid (HRAW.out.trans (endF2_good (.inl HKR.out)))
                have HCg := Lib.hid (ogood_any _ _ _ _ (rdRow_of_owns HD3.out.es) (rdRow_of_owns HD3.out.ps))
                obtain ⟨gq, hgq⟩ : ∃ e : Int, e = goodF ({ zeroO with kind := (K : Int) } : Obj) := ⟨_, rfl⟩
                have gob := HD3.out.ob
                have HGQ := Lib.hid hgq
                rw [← hgq] at HCg HFG
                clear hgq
                go_wp2_with (first | (refine wpList_load_blk (by rfl) 25 (.tmp 5) rfl q rfl (.agg (objC ({ zeroO with kind := (K : Int) } : Obj) _ _).toArray) rfl gob Try.underlying25 rfl (by kernel_rfl) ?_))
                (with_reducible refine HCg.out.mono ?_)
                rintro e w9 ⟨rfl, hb9⟩
                have HB9 := Lib.hid (HB3.out.trans (hb9.mono HD3.out.le.2.2))
                have HD9 := Lib.hid (HD3.out.below hb9)
                clear hb9 gob HCg
                clear c0 c1 c2 c3 c4 c5 c6 c7 c8 z0 z1 z2 z3 z4 z5 z6 z7 z8
                obtain ⟨c0, c1, c2, c3, c4, c5, c6, c7, c8⟩ := ob_cells' HD9.out.ob
                obtain ⟨z0, z1, z2, z3, z4, z5, z6, z7, z8⟩ := ob_free' HD9.out.ob
                by_cases hg0 : gq = 0
                · have hF := HFG.out.trans (if_neg (by simpa using hg0))
                  subst hF hg0
                  have gob9 := HD9.out.ob
                  have gR9 := HGR.out _ HB9.out
                  have hone9 := HD9.out.one
                  go_wp2_with (first | (refine wpList_load_blk (by rfl) 25 (.tmp 5) rfl q rfl (.agg (objC ({ zeroO with kind := (K : Int) } : Obj) _ _).toArray) rfl gob9 Try.underlying25 rfl (by kernel_rfl) ?_) | (refine wpList_store_blk (by rfl) 25 (.tmp 2) (.tmp 128) rfl w.heap.size (objC ({ zeroO with kind := (K : Int) } : Obj) _ _).toArray rfl rfl gR9 info_ob rfl hone9 ?_; intro wz hRz hUz))
                  obtain ⟨r0, r1, r2, r3, r4, r5, r6, r7, r8⟩ := ob_cells' hRz
                  have hlt : w.heap.size < W.heap.size := lt_of_block (HGR.out _ (Below.refl _ _))
                  refine bodyPost_ret (v := .tuple #[.agg (objC ({ zeroO with kind := (K : Int) } : Obj) (.slice none 0 0) (.slice none 0 0)).toArray, .int .i64 0]) ?_ rfl ⟨_, _, rfl, rdRow_of_owns (owns_upd HD9.out.es hUz (fun k hk e => by have := owns_ge HD9.out.es hk; omega)), rdRow_of_owns (owns_upd HD9.out.ps hUz (fun k hk e => by have := owns_ge HD9.out.ps hk; omega)), below_upd (HW0.out.trans (HB9.out.mono HW0.out.size)) hUz (Nat.le_refl _) (by have := HW0.out.size; have := HB9.out.size; omega)⟩
                  simp [results, Try.f8, go_sem, objC, r0, r1, r2, r3, r4, r5, r6, r7, r8]
                · have h1 : (gq == 0) = false := beq_eq_false_iff_ne.2 hg0
                  have h2 : (gq != 0) = true := by rw [bne, h1]; rfl
                  have hF := HFG.out.trans (if_pos hg0)
                  subst hF
                  clear hg0
                  obtain ⟨r0, r1, r2, r3, r4, r5, r6, r7, r8⟩ := ob_cells' (o := zeroO) (ve := .slice none 0 0) (vp := .slice none 0 0) (HGR.out _ HB9.out)
                  obtain ⟨y0, y1, y2, y3, y4, y5, y6, y7, y8⟩ := ob_free' (o := zeroO) (ve := .slice none 0 0) (vp := .slice none 0 0) (HGR.out _ HB9.out)
                  go_wp2_with fail
                  refine bodyPost_ret (v := .tuple #[.agg (objC zeroO (.slice none 0 0) (.slice none 0 0)).toArray, .int .i64 (gq)]) ?_ rfl ⟨.slice none 0 0, .slice none 0 0, rfl, rdE_nil _, rdS_nil _, ?_⟩
                  · simp [results, Try.f8, go_sem, objC, zeroO, noB, r0, r1, r2, r3, r4, r5, r6, r7, r8]
                  · exact set9 (HW0.out.trans (HB9.out.mono HW0.out.size)) (by have := HW0.out.size; omega) _ _ _ _ _ _ _ _ _
              · have h1 : (er == 0) = false := beq_eq_false_iff_ne.2 her
                have h2 : (er != 0) = true := by rw [bne, h1]; rfl
                have hF := HRAW.out.trans (endF2_bad her)
                subst hF
                clear her
                obtain ⟨r0, r1, r2, r3, r4, r5, r6, r7, r8⟩ := ob_cells' (o := zeroO) (ve := .slice none 0 0) (vp := .slice none 0 0) (HGR.out _ HB3.out)
                obtain ⟨y0, y1, y2, y3, y4, y5, y6, y7, y8⟩ := ob_free' (o := zeroO) (ve := .slice none 0 0) (vp := .slice none 0 0) (HGR.out _ HB3.out)
                go_wp2_with fail
                refine bodyPost_ret (v := .tuple #[.agg (objC zeroO (.slice none 0 0) (.slice none 0 0)).toArray, .int .i64 (2)]) ?_ rfl ⟨.slice none 0 0, .slice none 0 0, rfl, rdE_nil _, rdS_nil _, ?_⟩
                · simp [results, Try.f8, go_sem, objC, zeroO, noB, r0, r1, r2, r3, r4, r5, r6, r7, r8]
                · exact set9 (HW0.out.trans (HB3.out.mono HW0.out.size)) (by have := HW0.out.size; omega) _ _ _ _ _ _ _ _ _
            · have j1 : decide ((1 : Int) ≤ (K : Int)) = true := decide_eq_true (by omega)
              have j1n : decide (1 ≤ K) = true := decide_eq_true hK0
              have j2 : decide ((K : Int) ≤ 4) = false := decide_eq_false (by omega)
              have j2n : decide (K ≤ 4) = false := decide_eq_false (by omega)
              clear k0 k1 k2 k3 k4 hK0
              have HCb := Lib.hid (rBad_any HD3.out.rd)
              go_wp2_with fail
              (with_reducible refine HCb.out.mono ?_)
              rintro e w0 ⟨rfl, rfl⟩
              clear c0 c1 c2 c3 c4 c5 c6 c7 c8 z0 z1 z2 z3 z4 z5 z6 z7 z8
              obtain ⟨c0, c1, c2, c3, c4, c5, c6, c7, c8⟩ := ob_cells' HD3.out.ob
              obtain ⟨z0, z1, z2, z3, z4, z5, z6, z7, z8⟩ := ob_free' HD3.out.ob
              by_cases her : er = 0
              · subst her
                have HFG := Lib.hid (HRAW.out.trans (endF2_good (.inl HKR.out)))
                have HCg := Lib.hid (ogood_any _ _ _ _ (rdRow_of_owns HD3.out.es) (rdRow_of_owns HD3.out.ps))
                obtain ⟨gq, hgq⟩ : ∃ e : Int, e = goodF ({ zeroO with kind := (K : Int) } : Obj) := ⟨_, rfl⟩
                have gob := HD3.out.ob
                have HGQ := Lib.hid hgq
                rw [← hgq] at HCg HFG
                clear hgq
                go_wp2_with (first | (refine wpList_load_blk (by rfl) 25 (.tmp 5) rfl q rfl (.agg (objC ({ zeroO with kind := (K : Int) } : Obj) _ _).toArray) rfl gob Try.underlying25 rfl (by kernel_rfl) ?_))
                (with_reducible refine HCg.out.mono ?_)
                rintro e w9 ⟨rfl, hb9⟩
                have HB9 := Lib.hid (HB3.out.trans (hb9.mono HD3.out.le.2.2))
                have HD9 := Lib.hid (HD3.out.below hb9)
                clear hb9 gob HCg
                clear c0 c1 c2 c3 c4 c5 c6 c7 c8 z0 z1 z2 z3 z4 z5 z6 z7 z8
                obtain ⟨c0, c1, c2, c3, c4, c5, c6, c7, c8⟩ := ob_cells' HD9.out.ob
                obtain ⟨z0, z1, z2, z3, z4, z5, z6, z7, z8⟩ := ob_free' HD9.out.ob
                by_cases hg0 : gq = 0
                · have hF := HFG.out.trans (if_neg (by simpa using hg0))
                  subst hF hg0
                  have gob9 := HD9.out.ob
                  have gR9 := HGR.out _ HB9.out
                  have hone9 := HD9.out.one
                  go_wp2_with (first | (refine wpList_load_blk (by rfl) 25 (.tmp 5) rfl q rfl (.agg (objC ({ zeroO with kind := (K : Int) } : Obj) _ _).toArray) rfl gob9 Try.underlying25 rfl (by kernel_rfl) ?_) | (refine wpList_store_blk (by rfl) 25 (.tmp 2) (.tmp 128) rfl w.heap.size (objC ({ zeroO with kind := (K : Int) } : Obj) _ _).toArray rfl rfl gR9 info_ob rfl hone9 ?_; intro wz hRz hUz))
                  obtain ⟨r0, r1, r2, r3, r4, r5, r6, r7, r8⟩ := ob_cells' hRz
                  have hlt : w.heap.size < W.heap.size := lt_of_block (HGR.out _ (Below.refl _ _))
                  refine bodyPost_ret (v := .tuple #[.agg (objC ({ zeroO with kind := (K : Int) } : Obj) (.slice none 0 0) (.slice none 0 0)).toArray, .int .i64 0]) ?_ rfl ⟨_, _, rfl, rdRow_of_owns (owns_upd HD9.out.es hUz (fun k hk e => by have := owns_ge HD9.out.es hk; omega)), rdRow_of_owns (owns_upd HD9.out.ps hUz (fun k hk e => by have := owns_ge HD9.out.ps hk; omega)), below_upd (HW0.out.trans (HB9.out.mono HW0.out.size)) hUz (Nat.le_refl _) (by have := HW0.out.size; have := HB9.out.size; omega)⟩
                  simp [results, Try.f8, go_sem, objC, r0, r1, r2, r3, r4, r5, r6, r7, r8]
                · have h1 : (gq == 0) = false := beq_eq_false_iff_ne.2 hg0
                  have h2 : (gq != 0) = true := by rw [bne, h1]; rfl
                  have hF := HFG.out.trans (if_pos hg0)
                  subst hF
                  clear hg0
                  obtain ⟨r0, r1, r2, r3, r4, r5, r6, r7, r8⟩ := ob_cells' (o := zeroO) (ve := .slice none 0 0) (vp := .slice none 0 0) (HGR.out _ HB9.out)
                  obtain ⟨y0, y1, y2, y3, y4, y5, y6, y7, y8⟩ := ob_free' (o := zeroO) (ve := .slice none 0 0) (vp := .slice none 0 0) (HGR.out _ HB9.out)
                  go_wp2_with fail
                  refine bodyPost_ret (v := .tuple #[.agg (objC zeroO (.slice none 0 0) (.slice none 0 0)).toArray, .int .i64 (gq)]) ?_ rfl ⟨.slice none 0 0, .slice none 0 0, rfl, rdE_nil _, rdS_nil _, ?_⟩
                  · simp [results, Try.f8, go_sem, objC, zeroO, noB, r0, r1, r2, r3, r4, r5, r6, r7, r8]
                  · exact set9 (HW0.out.trans (HB9.out.mono HW0.out.size)) (by have := HW0.out.size; omega) _ _ _ _ _ _ _ _ _
              · have h1 : (er == 0) = false := beq_eq_false_iff_ne.2 her
                have h2 : (er != 0) = true := by rw [bne, h1]; rfl
                have hF := HRAW.out.trans (endF2_bad her)
                subst hF
                clear her
                obtain ⟨r0, r1, r2, r3, r4, r5, r6, r7, r8⟩ := ob_cells' (o := zeroO) (ve := .slice none 0 0) (vp := .slice none 0 0) (HGR.out _ HB3.out)
                obtain ⟨y0, y1, y2, y3, y4, y5, y6, y7, y8⟩ := ob_free' (o := zeroO) (ve := .slice none 0 0) (vp := .slice none 0 0) (HGR.out _ HB3.out)
                go_wp2_with fail
                refine bodyPost_ret (v := .tuple #[.agg (objC zeroO (.slice none 0 0) (.slice none 0 0)).toArray, .int .i64 (2)]) ?_ rfl ⟨.slice none 0 0, .slice none 0 0, rfl, rdE_nil _, rdS_nil _, ?_⟩
                · simp [results, Try.f8, go_sem, objC, zeroO, noB, r0, r1, r2, r3, r4, r5, r6, r7, r8]
                · exact set9 (HW0.out.trans (HB3.out.mono HW0.out.size)) (by have := HW0.out.size; omega) _ _ _ _ _ _ _ _ _
end Go.Proofs.Ytmjnohblifihmaa
