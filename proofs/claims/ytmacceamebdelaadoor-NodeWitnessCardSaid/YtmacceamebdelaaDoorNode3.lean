/- The walks of package node's checked and Wake. -/
import Derived.Test.YtmacceamebdelaaDoorNode2
import Derived.Test.YtmacceamebdelaaDoorDkB
namespace Go.Proofs.YtmacceamebdelaaDoor
open Go.RowKit
set_option linter.unusedVariables false
set_option linter.unusedSimpArgs false

theorem read_size {d : Dsk} {n s : ByteArray} (h : readD namedD d n = (s, 0)) : s.size ≤ 1048576 := by
  obtain ⟨l, f⟩ := d
  by_cases hg : GoodL namedD l
  · cases hf : fget n l with
    | none => rw [readD_2 (d := ⟨l, f⟩) hg hf] at h; injection h with _ h; cases h
    | some x =>
      rw [readD_3 (d := ⟨l, f⟩) hg hf] at h
      injection h with h _
      have := hg.size x (getL_some _ hf).1
      rw [← h, ByteArray.size_append]; exact this
  · rw [readD_1 (d := ⟨l, f⟩) hg] at h; injection h with _ h; cases h
theorem chk_size {d : Dsk} {n b : ByteArray} {e : Int} (h : chkF d n = (b, e)) : b.size ≤ 9223372036854775807 ∧ b.size ≤ 4611686018427387904 := by
  have : b.size ≤ 1048576 := by
    obtain ⟨⟨s, e1⟩, hq⟩ : ∃ q, q = readD namedD d n := ⟨_, rfl⟩
    by_cases he : e1 = 0
    · subst he
      have hz := read_size hq.symm
      by_cases h2 : s.size < 32
      · rw [chkF_2 hq.symm h2] at h; injection h with h _; rw [← h]; exact Nat.zero_le _
      · by_cases h3 : sumF (s.extract 0 (s.size - 32)) = s.extract (s.size - 32) s.size
        · rw [chkF_4 hq.symm h2 h3] at h; injection h with h _; rw [← h, ByteArray.size_extract]; omega
        · rw [chkF_3 hq.symm h3] at h; injection h with h _; rw [← h]; exact Nat.zero_le _
    · rw [chkF_1 hq.symm he] at h; injection h with h _; rw [← h]; exact Nat.zero_le _
  omega
set_option maxRecDepth 100000 in
set_option maxHeartbeats 3200000 in
theorem checked_any (l : List Fil) (fuse : Int) (v : Value) (w : World) (hr : rdF w v l) (n : ByteArray) (ht : Tab w) :
    Calls Tryd.prog 20 #[.agg #[v, .int .i64 fuse], .string n] w fun e w' => e = .returned (.tuple #[.string (chkF ⟨l, fuse⟩ n).1, .int .i64 (chkF ⟨l, fuse⟩ n).2]) ∧ Below w.heap.size w w' := by
  obtain ⟨F, hF⟩ : ∃ F, F = chkF ⟨l, fuse⟩ n := ⟨_, rfl⟩
  rw [← hF]
  have HF := Lib.hid hF
  obtain ⟨ao, cp, rfl⟩ := rd_form hr
  obtain ⟨W, hW⟩ : ∃ W, w.alloc (.cells #[.slice ao l.length cp, .int .i64 fuse] 26) = W := ⟨_, rfl⟩
  have hb1 : Below w.heap.size w W := by rw [← hW]; exact (Below.refl _ _).alloc (Nat.le_refl _) _
  have g0 : W.heap[w.heap.size]? = some (.cells #[.slice ao l.length cp, .int .i64 fuse] 26 (0, 0)) := by rw [← hW]; exact heap_alloc_new _ _
  have HG0 := Lib.hid (fun wr (h : Below W.heap.size W wr) => blk_below g0 h)
  have HW0 := Lib.hid hb1
  have HB0 := Lib.hid (Below.refl W.heap.size W)
  have HT := Lib.hid ht
  have hrd := dread_any l fuse (.slice ao l.length cp) W (hr.below hb1) n
  obtain ⟨⟨s, er⟩, hx⟩ : ∃ q, q = readD namedD ⟨l, fuse⟩ n := ⟨_, rfl⟩
  rw [← hx] at hrd
  have HX := Lib.hid hx.symm
  obtain ⟨c0, c1, cz0, cz1⟩ := cell_of_two (g0)
  clear hF hr ht g0 hb1 hx
  go_enter Tryd.func20, Tryd.ntmps20
  go_wp2_with fail
  (with_reducible refine (hrd).mono ?_)
  rintro e w1 ⟨rfl, hb⟩
  have HB1 := Lib.hid (HB0.out.trans (hb.mono HB0.out.size))
  clear hb hrd hW c0 c1 cz0 cz1
  by_cases he : er = 0
  · subst he
    have HNZ := Lib.hid (show s.size ≤ 1048576 by exact read_size HX.out)
    have hnz := HNZ.out
    by_cases h32 : s.size < 32
    · have t1 : decide (((s.size : Int) - 32) < 0) = true := decide_eq_true (by omega)
      go_wp2_with fail
      refine Lone.wp_region_order [(0, false), (1, false), (2, false), (3, false), (4, false), (5, false), (7, false), (8, false), (9, false), (6, true), (10, false), (11, false)] (fun _ => True) (by kernel_rfl) (by kernel_rfl) rfl (by kernel_rfl) (by intro _ _ d _ _ h; cases d <;> exact h) (trivial) ?_; simp only [List.map_cons, List.map_nil, List.getElem?_toArray, List.getElem?_cons_zero, List.getElem?_cons_succ, Option.getD_some]
      repeat (first | (refine Lone.ro_q (by rfl) (v := ?_) ?_ ?_; rotate_left; (focus (intro w' hSw; (try dsimp only at hSw); go_simp; try with_reducible rfl)); simp only [Act.put, List.setIfInBounds_toArray, List.set_cons_zero, List.set_cons_succ]) | (refine Lone.ro_skip (by rfl) ?_; simp only [Act.put, List.setIfInBounds_toArray, List.set_cons_zero, List.set_cons_succ]))
      refine Lone.ro_skipL (by rfl) trivial ?_; simp only [Act.put, List.setIfInBounds_toArray, List.set_cons_zero, List.set_cons_succ]
      repeat (first | (refine Lone.ro_q (by rfl) (v := ?_) ?_ ?_; rotate_left; (focus (intro w' hSw; (try dsimp only at hSw); go_simp; try with_reducible rfl)); simp only [Act.put, List.setIfInBounds_toArray, List.set_cons_zero, List.set_cons_succ]) | (refine Lone.ro_skip (by rfl) ?_; simp only [Act.put, List.setIfInBounds_toArray, List.set_cons_zero, List.set_cons_succ]))
      refine Lone.ro_nil ?_
      have hF := HF.out.trans (chkF_2 HX.out h32)
      subst hF
      clear h32 hnz
      go_wp2_with fail
      go_ret2
      exact ⟨rfl, HW0.out.trans (HB1.out.drew.mono HW0.out.size)⟩
    · have t1 : decide (((s.size : Int) - 32) < 0) = false := decide_eq_false (by omega)
      obtain ⟨en, hen⟩ : ∃ en, en = s.size - 32 := ⟨_, rfl⟩
      have hE : (s.size : Int) - 32 = (en : Int) := by omega
      have hEl : en ≤ s.size := by omega
      obtain ⟨x1, hx1⟩ : ∃ x, s.extract 0 en = x := ⟨_, rfl⟩
      obtain ⟨x2, hx2⟩ : ∃ x, s.extract en s.size = x := ⟨_, rfl⟩
      have HX1 := Lib.hid (show s.extract 0 (s.size - 32) = x1 by rw [← hx1, hen])
      have HX2 := Lib.hid (show s.extract (s.size - 32) s.size = x2 by rw [← hx2, hen])
      obtain ⟨y1, hy1⟩ : ∃ y, y = sumF x1 := ⟨_, rfl⟩
      have HY1 := Lib.hid hy1
      have HSM := Lib.hid (fun wr (h : Below W.heap.size W wr) => sum_any x1 wr (HT.out.below (HW0.out.trans (h.mono HW0.out.size))))
      rw [← hy1] at HSM
      have H32 := Lib.hid h32
      rw [hE] at t1
      clear hy1 hen h32
      go_wp2_with fail
      refine Lone.wp_region_order [(0, false), (1, false), (2, false), (3, false), (4, false), (5, false), (7, false), (8, false), (9, false), (6, true), (10, false), (11, false)] (fun _ => True) (by kernel_rfl) (by kernel_rfl) rfl (by kernel_rfl) (by intro _ _ d _ _ h; cases d <;> exact h) (trivial) ?_; simp only [List.map_cons, List.map_nil, List.getElem?_toArray, List.getElem?_cons_zero, List.getElem?_cons_succ, Option.getD_some]
      repeat (first | (refine Lone.ro_q (by rfl) (v := ?_) ?_ ?_; rotate_left; (focus (intro w' hSw; (try dsimp only at hSw); go_simp; try with_reducible rfl)); simp only [Act.put, List.setIfInBounds_toArray, List.set_cons_zero, List.set_cons_succ]) | (refine Lone.ro_skip (by rfl) ?_; simp only [Act.put, List.setIfInBounds_toArray, List.set_cons_zero, List.set_cons_succ]))
      (refine Lone.ro_loud (by rfl) (fun K hK => ?_); go_simp)
      have HB2 := Lib.hid (below_drew HB1.out)
      (with_reducible refine (HSM.out _ HB2.out).mono ?_)
      rintro e w3 ⟨rfl, hb⟩
      have HB3 := Lib.hid (HB2.out.trans (hb.mono HB2.out.size))
      clear hb HSM
      (refine hK.out _ _ (fun _ => True) (.inl fun _ h => h) (trivial) ?_; clear hK K; try simp only [Act.put, List.setIfInBounds_toArray, List.set_cons_zero, List.set_cons_succ])
      by_cases hs : y1 = x2
      · have m1 : (y1.toList == x2.toList) = true := by rw [hs]; exact beq_yes _
        have m2 : (y1.toList != x2.toList) = false := by rw [bne, m1]; rfl
        repeat (first | (refine Lone.ro_q (by rfl) (v := ?_) ?_ ?_; rotate_left; (focus (intro w' hSw; (try dsimp only at hSw); go_simp; try with_reducible rfl)); simp only [Act.put, List.setIfInBounds_toArray, List.set_cons_zero, List.set_cons_succ]) | (refine Lone.ro_skip (by rfl) ?_; simp only [Act.put, List.setIfInBounds_toArray, List.set_cons_zero, List.set_cons_succ]))
        refine Lone.ro_nil ?_
        have hF := HF.out.trans (chkF_4 HX.out H32.out (by rw [HX1.out, HX2.out, ← HY1.out]; exact hs))
        rw [HX1.out] at hF
        subst hF
        clear hs
        go_wp2_with fail
        go_ret2
        exact ⟨rfl, HW0.out.trans (HB3.out.mono HW0.out.size)⟩
      · have m1 : (y1.toList == x2.toList) = false := beq_no hs
        have m2 : (y1.toList != x2.toList) = true := by rw [bne, m1]; rfl
        repeat (first | (refine Lone.ro_q (by rfl) (v := ?_) ?_ ?_; rotate_left; (focus (intro w' hSw; (try dsimp only at hSw); go_simp; try with_reducible rfl)); simp only [Act.put, List.setIfInBounds_toArray, List.set_cons_zero, List.set_cons_succ]) | (refine Lone.ro_skip (by rfl) ?_; simp only [Act.put, List.setIfInBounds_toArray, List.set_cons_zero, List.set_cons_succ]))
        refine Lone.ro_nil ?_
        have hF := HF.out.trans (chkF_3 HX.out (by rw [HX1.out, HX2.out, ← HY1.out]; exact hs))
        subst hF
        clear hs
        go_wp2_with fail
        go_ret2
        exact ⟨rfl, HW0.out.trans (HB3.out.mono HW0.out.size)⟩
  · have n1 : (er == 0) = false := beq_eq_false_iff_ne.2 he
    have n2 : (er != 0) = true := by rw [bne, n1]; rfl
    have hF := HF.out.trans (chkF_1 HX.out he)
    subst hF
    clear he
    go_wp2_with fail
    go_ret2
    exact ⟨rfl, HW0.out.trans (HB1.out.mono HW0.out.size)⟩
def RetV (w : World) (v : Value) (l : List Fil) (r : Wit × Int) (e : Ending) (w' : World) : Prop :=
  ∃ v', e = .returned (.tuple #[.agg #[.int .i64 r.1.who, .string r.1.key, v', .int .i64 r.1.disk.fuse, .int .i64 r.1.seen.1, .string r.1.seen.2], .int .i64 r.2]) ∧ Below w.heap.size w w' ∧ NewF w.heap.size w' v v' l r.1.disk.files
set_option maxRecDepth 100000 in
set_option maxHeartbeats 3200000 in
theorem wakeN_any (x : Wit) (keep : Int) (v : Value) (w : World) (hr : rdF w v x.disk.files) (hkr : -9223372036854775808 ≤ keep ∧ keep ≤ 9223372036854775807) (ht : Tab w) :
    Calls Tryd.prog 10 #[.agg #[.int .i64 x.who, .string x.key, v, .int .i64 x.disk.fuse, .int .i64 x.seen.1, .string x.seen.2], .int .i64 keep] w (RetV w v x.disk.files (wakeW x keep)) := by
  obtain ⟨F, hF⟩ : ∃ F, F = wakeW x keep := ⟨_, rfl⟩
  rw [← hF]
  have HF := Lib.hid hF
  obtain ⟨ao, cp, rfl⟩ := rd_form hr
  obtain ⟨W, hW⟩ : ∃ W, (w.alloc (.cells #[.int .i64 x.who, .string x.key, .slice ao x.disk.files.length cp, .int .i64 x.disk.fuse, .int .i64 x.seen.1, .string x.seen.2] 30)).alloc (.cells #[.int .i64 0, .string ⟨#[]⟩, .slice none 0 0, .int .i64 0, .int .i64 0, .string ⟨#[]⟩] 30) = W := ⟨_, rfl⟩
  have hb1 : Below w.heap.size w W := by rw [← hW]; exact ((Below.refl _ _).alloc (Nat.le_refl _) _).alloc (by simp <;> omega) _
  have g0 : W.heap[w.heap.size]? = some (.cells #[.int .i64 x.who, .string x.key, .slice ao x.disk.files.length cp, .int .i64 x.disk.fuse, .int .i64 x.seen.1, .string x.seen.2] 30 (0, 0)) := by rw [← hW]; exact heap_old (heap_alloc_new _ _)
  have HG0 := Lib.hid (fun wr (h : Below W.heap.size W wr) => blk_below g0 h)
  have g1 : W.heap[w.heap.size + 1]? = some (.cells #[.int .i64 0, .string ⟨#[]⟩, .slice none 0 0, .int .i64 0, .int .i64 0, .string ⟨#[]⟩] 30 (0, 0)) := by rw [← hW]; exact heap_new (by simp)
  have HG1 := Lib.hid (fun wr (h : Below W.heap.size W wr) => blk_below g1 h)
  have HW0 := Lib.hid hb1
  have HB0 := Lib.hid (Below.refl W.heap.size W)
  have HWZ := Lib.hid (show W.heap.size = w.heap.size + 2 by rw [← hW]; simp)
  have HR := Lib.hid hr
  have HT := Lib.hid ht
  have HKR := Lib.hid hkr
  clear hr ht hkr hF hb1 g0 g1
  have hcr := crash_anyN x.disk.files x.disk.fuse (.slice ao x.disk.files.length cp) W (HR.out.below HW0.out) keep HKR.out
  obtain ⟨⟨⟨fl, fz⟩, ec⟩, hce⟩ : ∃ q, q = crashD namedD x.disk keep := ⟨_, rfl⟩
  rw [show crashD namedD ⟨x.disk.files, x.disk.fuse⟩ keep = _ from hce.symm] at hcr
  have HCE := Lib.hid hce.symm
  clear hce
  obtain ⟨c0, c1, c2, c3, c4, c5⟩ := six_cells (HG0.out _ HB0.out)
  go_enter Tryd.func10, Tryd.ntmps10
  go_wp2_with fail
  (with_reducible refine (hcr).mono ?_)
  rintro e w1 ⟨v2, rfl, hrd, hb, hnw⟩
  have HB1 := Lib.hid (HB0.out.trans (hb.mono HB0.out.size))
  clear hb hcr hW c0 c1 c2 c3 c4 c5
  obtain ⟨a2, p2, rfl⟩ := rd_form hrd
  have HN1 := Lib.hid (hnw.mono HW0.out.size)
  have HD1 := Lib.hid hrd
  clear hnw hrd
  obtain ⟨c0, c1, c2, c3, c4, c5⟩ := six_cells (HG0.out _ HB1.out)
  by_cases hc : ec = 0
  · subst hc
    have HEM := Lib.hid (fun wr (h : Below W.heap.size W wr) => emptyHd_any wr (HT.out.below (HW0.out.trans (h.mono HW0.out.size))))
    obtain ⟨re, hre⟩ : ∃ r, r = rootF [] := ⟨_, rfl⟩
    rw [← hre] at HEM
    have HRE := Lib.hid hre
    clear hre
    go_wp2_with (refine wpList_store_blk (by rfl) 26 (.tmp 6) (.tmp 15) rfl w1.heap.size #[.slice a2 fl.length p2, .int .i64 fz] rfl rfl (old := _) (heap_alloc_new _ _) (by kernel_rfl) rfl (by simp [Value.oneCell']) ?_; intro w2 gd ud; have hb2 := below_upd ((Below.refl w1.heap.size w1).alloc (Nat.le_refl _) _) ud (Nat.le_refl _) (by simp); have HB2 := Lib.hid (HB1.out.trans (hb2.mono HB1.out.size)); have HN2 := Lib.hid (HN1.out.trans (.inl ⟨rfl, rfl⟩) hb2 (HW0.out.trans (HB1.out.mono HW0.out.size)).size); have HD2 := Lib.hid (HD1.out.below hb2); have HGD := Lib.hid (fun wr (h : Below w2.heap.size w2 wr) => blk_below gd h); have HLT := Lib.hid (Array.getElem?_eq_some_iff.1 gd).1; clear gd ud hb2 c0 c1 c2 c3 c4 c5; obtain ⟨c0, c1, c2, c3, c4, c5⟩ := six_cells (HG0.out _ HB2.out))
    (with_reducible refine (HEM.out _ HB2.out).mono ?_)
    rintro e w3 ⟨rfl, hb⟩
    have HB3 := Lib.hid (HB2.out.trans (hb.mono HB2.out.size))
    have HN3 := Lib.hid (HN2.out.trans (.inl ⟨rfl, rfl⟩) hb (HW0.out.trans (HB2.out.mono HW0.out.size)).size)
    have HD3 := Lib.hid (HD2.out.below hb)
    have HL3 := Lib.hid hb
    clear hb HEM c0 c1 c2 c3 c4 c5
    skip
    obtain ⟨c0, c1, c2, c3, c4, c5⟩ := six_cells (HG0.out _ HB3.out)
    obtain ⟨d0, d1, dz0, dz1⟩ := cell_of_two (HGD.out _ HL3.out)
    go_wp2_with (refine wpList_store_blk (by rfl) 28 (.tmp 8) (.tmp 21) rfl w3.heap.size #[.int .i64 0, .string re] rfl rfl (old := _) (heap_alloc_new _ _) (by kernel_rfl) rfl (by simp [Value.oneCell']) ?_; intro w4 ge ue; have hb4 := below_upd ((Below.refl w3.heap.size w3).alloc (Nat.le_refl _) _) ue (Nat.le_refl _) (by simp); have HB4 := Lib.hid (HB3.out.trans (hb4.mono HB3.out.size)); have HN4 := Lib.hid (HN3.out.trans (.inl ⟨rfl, rfl⟩) hb4 (HW0.out.trans (HB3.out.mono HW0.out.size)).size); have HD4 := Lib.hid (HD3.out.below hb4); have HL4 := Lib.hid (HL3.out.trans (hb4.mono HL3.out.size)); have HGE := Lib.hid (fun wr (h : Below w4.heap.size w4 wr) => blk_below ge h); clear ge ue hb4 c0 c1 c2 c3 c4 c5 d0 d1 dz0 dz1; obtain ⟨c0, c1, c2, c3, c4, c5⟩ := six_cells (HG0.out _ HB4.out); obtain ⟨d0, d1, dz0, dz1⟩ := cell_of_two (HGD.out _ HL4.out))
    have hck := checked_any fl fz (.slice a2 fl.length p2) w4 HD4.out seenN (HT.out.below (HW0.out.trans (HB4.out.mono HW0.out.size)))
    obtain ⟨⟨b, eb⟩, hbe⟩ : ∃ q, q = chkF ⟨fl, fz⟩ seenN := ⟨_, rfl⟩
    rw [← hbe] at hck
    have HBE := Lib.hid hbe.symm
    have HBZ := Lib.hid (chk_size (show chkF ⟨fl, fz⟩ seenN = (b, eb) from hbe.symm))
    unfold seenN at hck
    clear hbe
    (with_reducible refine (hck).mono ?_)
    rintro e w5 ⟨rfl, hb⟩
    have HB5 := Lib.hid (HB4.out.trans (hb.mono HB4.out.size))
    have HN5 := Lib.hid (HN4.out.trans (.inl ⟨rfl, rfl⟩) hb (HW0.out.trans (HB4.out.mono HW0.out.size)).size)
    have HL5 := Lib.hid (HL4.out.trans (hb.mono HL4.out.size))
    have HM5 := Lib.hid hb
    clear hb hck c0 c1 c2 c3 c4 c5 d0 d1 dz0 dz1
    obtain ⟨c0, c1, c2, c3, c4, c5⟩ := six_cells (HG0.out _ HB5.out)
    obtain ⟨d0, d1, dz0, dz1⟩ := cell_of_two (HGD.out _ HL5.out)
    obtain ⟨f0, f1, fz0, fz1⟩ := cell_of_two (HGE.out _ HM5.out)
    by_cases hb0 : eb = 0
    · subst hb0
      have hrh := readHead_any b w5 HBZ.out.1 HBZ.out.2
      obtain ⟨⟨⟨gn, gr⟩, eg⟩, hge⟩ : ∃ q, q = hreadF b := ⟨_, rfl⟩
      rw [← hge] at hrh
      have HGEQ := Lib.hid hge.symm
      clear hge
      go_wp2_with fail
      (with_reducible refine (hrh).mono ?_)
      rintro e w6 ⟨rfl, hb⟩
      have HB6 := Lib.hid (HB5.out.trans (hb.mono HB5.out.size))
      have HN6 := Lib.hid (HN5.out.trans (.inl ⟨rfl, rfl⟩) hb (HW0.out.trans (HB5.out.mono HW0.out.size)).size)
      have HL6 := Lib.hid (HL5.out.trans (hb.mono HL5.out.size))
      have HM6 := Lib.hid (HM5.out.trans (hb.mono HM5.out.size))
      clear hb hrh c0 c1 c2 c3 c4 c5 d0 d1 dz0 dz1 f0 f1 fz0 fz1
      obtain ⟨c0, c1, c2, c3, c4, c5⟩ := six_cells (HG0.out _ HB6.out)
      obtain ⟨d0, d1, dz0, dz1⟩ := cell_of_two (HGD.out _ HL6.out)
      by_cases he : eg = 0 ∨ eg = 7
      · have HE7 := Lib.hid he
        rcases he with he | he
        · subst he
          have hF := HF.out.trans (wakeW_3 HCE.out HBE.out HGEQ.out HE7.out)
          subst hF
          go_wp2_with (refine wpList_store_blk (by rfl) 28 (.tmp 8) (.tmp 32) rfl w3.heap.size #[.int .i64 gn, .string gr] rfl rfl (old := _) (HGE.out _ HM6.out) (by kernel_rfl) rfl (by simp [Value.oneCell']) ?_; intro w7 gh uh; have hs1 := HB1.out.size; have hs3 := HB3.out.size; have hsL := HL3.out.size; have hsW : W.heap.size = w.heap.size + 2 := HWZ.out; have hl1 : w1.heap.size < w2.heap.size := HLT.out; have HG07 := Lib.hid (blk_upd (HG0.out _ HB6.out) uh (by omega)); have HG17 := Lib.hid (blk_upd (HG1.out _ HB6.out) uh (by omega)); have HGD7 := Lib.hid (blk_upd (HGD.out _ HL6.out) uh (by omega)); have HB7 := Lib.hid (below_upd (HW0.out.trans (HB6.out.mono HW0.out.size)) uh (by omega) (HW0.out.trans (HB6.out.mono HW0.out.size)).size); have HN7 := Lib.hid (HN6.out.updT uh (HGE.out _ HM6.out) (by decide)); clear uh hs1 hs3 hsL hsW hl1 c0 c1 c2 c3 c4 c5 d0 d1 dz0 dz1; obtain ⟨c0, c1, c2, c3, c4, c5⟩ := six_cells (HG07.out); obtain ⟨d0, d1, dz0, dz1⟩ := cell_of_two (HGD7.out); obtain ⟨f0, f1, fz0, fz1⟩ := cell_of_two (gh))
          have gD := HGD7.out
          have gE := gh
          have g0 := HG07.out
          have hs1 := HB1.out.size
          have hs3 := HB3.out.size
          have hsW : W.heap.size = w.heap.size + 2 := HWZ.out
          clear c0 c1 c2 c3 c4 c5 d0 d1 dz0 dz1 f0 f1 fz0 fz1
          obtain ⟨wA, hwA⟩ : ∃ X, w7.drew = X := ⟨_, rfl⟩
          have hdr : Below w7.heap.size w7 wA := by rw [← hwA]; exact (Below.refl _ _).drew
          have gDA := blk_below gD hdr
          have gEA := blk_below gE hdr
          have g0A := blk_below g0 hdr
          have HG1A := Lib.hid (blk_below (HG17.out) hdr)
          have HBA := Lib.hid (HB7.out.trans (hdr.mono HB7.out.size))
          have HNA := Lib.hid (HN7.out.trans (.inl ⟨rfl, rfl⟩) hdr (HB7.out).size)
          obtain ⟨d0, d1, dz0, dz1⟩ := cell_of_two (gDA)
          obtain ⟨f0, f1, fz0, fz1⟩ := cell_of_two (gEA)
          refine Sole.wp_region_order [(0, false), (1, false), (2, false), (3, true), (4, false), (5, true)] (fun w' => (w'.cell? ⟨w1.heap.size, 0, none⟩ = some (.slice a2 fl.length p2) ∧ w'.cell? ⟨w1.heap.size, 1, none⟩ = some (.int .i64 fz)) ∧ w'.cell? ⟨w3.heap.size, 0, none⟩ = some (.int .i64 gn) ∧ w'.cell? ⟨w3.heap.size, 1, none⟩ = some (.string gr)) (by kernel_rfl) (by kernel_rfl) rfl (by kernel_rfl) (by intro _ _ d _ _ h; cases d <;> exact h) (hwA ▸ ⟨⟨d0, d1⟩, f0, f1⟩) ?_; simp only [List.map_cons, List.map_nil, List.getElem?_toArray, List.getElem?_cons_zero, List.getElem?_cons_succ, Option.getD_some]
          rw [hwA]
          clear hwA hdr gD gE g0
          repeat (first | (refine Sole.ro_q (by rfl) (v := ?_) ?_ ?_; rotate_left; (focus (intro w' hSw; (try dsimp only at hSw); go_simp; try with_reducible rfl)); simp only [Act.put, List.setIfInBounds_toArray, List.set_cons_zero, List.set_cons_succ]) | (refine Sole.ro_skip (by rfl) ?_; simp only [Act.put, List.setIfInBounds_toArray, List.set_cons_zero, List.set_cons_succ]))
          (refine Sole.ro_loud (by rfl) (fun K hK => ?_))
          refine wp_store_seg 26 (.tmp 44) (.tmp 42) rfl w.heap.size 2 #[.slice a2 fl.length p2, .int .i64 fz] rfl rfl (old := _) g0A (by kernel_rfl) (by simp) (by simp [Value.oneCell']) ?_
          intro wB gB uB
          have gB : wB.heap[w.heap.size]? = some (.cells #[.int .i64 x.who, .string x.key, .slice a2 fl.length p2, .int .i64 fz, .int .i64 x.seen.1, .string x.seen.2] 30 (0, 0)) := gB
          clear d0 d1 dz0 dz1 f0 f1 fz0 fz1
          obtain ⟨d0, d1, dz0, dz1⟩ := cell_of_two (blk_upd gDA uB (by omega))
          obtain ⟨f0, f1, fz0, fz1⟩ := cell_of_two (blk_upd gEA uB (by omega))
          (refine hK.out _ _ (fun w' => (w'.cell? ⟨w1.heap.size, 0, none⟩ = some (.slice a2 fl.length p2) ∧ w'.cell? ⟨w1.heap.size, 1, none⟩ = some (.int .i64 fz)) ∧ w'.cell? ⟨w3.heap.size, 0, none⟩ = some (.int .i64 gn) ∧ w'.cell? ⟨w3.heap.size, 1, none⟩ = some (.string gr)) (.inl fun _ h => h) (⟨⟨d0, d1⟩, f0, f1⟩) ?_; clear hK K; try simp only [Act.put, List.setIfInBounds_toArray, List.set_cons_zero, List.set_cons_succ])
          repeat (first | (refine Sole.ro_q (by rfl) (v := ?_) ?_ ?_; rotate_left; (focus (intro w' hSw; (try dsimp only at hSw); go_simp; try with_reducible rfl)); simp only [Act.put, List.setIfInBounds_toArray, List.set_cons_zero, List.set_cons_succ]) | (refine Sole.ro_skip (by rfl) ?_; simp only [Act.put, List.setIfInBounds_toArray, List.set_cons_zero, List.set_cons_succ]))
          (refine Sole.ro_loud (by rfl) (fun K hK => ?_))
          refine wp_store_seg 28 (.tmp 45) (.tmp 43) rfl w.heap.size 4 #[.int .i64 gn, .string gr] rfl rfl (old := _) gB (by kernel_rfl) (by simp) (by simp [Value.oneCell']) ?_
          intro wC gC uC
          have gC : wC.heap[w.heap.size]? = some (.cells #[.int .i64 x.who, .string x.key, .slice a2 fl.length p2, .int .i64 fz, .int .i64 gn, .string gr] 30 (0, 0)) := gC
          have HG1C := Lib.hid (blk_upd (blk_upd HG1A.out uB (by omega)) uC (by omega))
          have hbB := below_upd HBA.out uB (Nat.le_refl _) HBA.out.size
          have HBC := Lib.hid (below_upd hbB uC (Nat.le_refl _) hbB.size)
          have HNC := Lib.hid ((HNA.out.updT uB g0A (by decide)).updT uC gB (by decide))
          clear d0 d1 dz0 dz1 f0 f1 fz0 fz1
          obtain ⟨c0, c1, c2, c3, c4, c5⟩ := six_cells (gC)
          clear hbB
          (refine hK.out _ _ (fun _ => True) (.inr (by kernel_rfl)) (trivial) ?_; clear hK K; try simp only [Act.put, List.setIfInBounds_toArray, List.set_cons_zero, List.set_cons_succ])
          repeat (first | (refine Sole.ro_q (by rfl) (v := ?_) ?_ ?_; rotate_left; (focus (intro w' hSw; (try dsimp only at hSw); go_simp; try with_reducible rfl)); simp only [Act.put, List.setIfInBounds_toArray, List.set_cons_zero, List.set_cons_succ]) | (refine Sole.ro_skip (by rfl) ?_; simp only [Act.put, List.setIfInBounds_toArray, List.set_cons_zero, List.set_cons_succ]))
          refine Sole.ro_nil ?_
          go_wp2_with (refine wpList_store_blk (by rfl) 30 (.tmp 4) (.tmp 46) rfl (w.heap.size + 1) #[.int .i64 x.who, .string x.key, .slice a2 fl.length p2, .int .i64 fz, .int .i64 gn, .string gr] rfl rfl (old := _) (HG1C.out) (by kernel_rfl) rfl (by simp [Value.oneCell']) ?_; intro wz gz uz)
          obtain ⟨r0, r1, r2, r3, r4, r5⟩ := six_cells (gz)
          refine bodyPost_ret (v := .tuple #[.agg #[.int .i64 x.who, .string x.key, .slice a2 fl.length p2, .int .i64 fz, .int .i64 gn, .string gr], .int .i64 0]) ?_ rfl ⟨_, rfl, below_upd (HBC.out) uz (by omega) (HBC.out).size, HNC.out.updT uz HG1C.out (by decide)⟩
          simp [results, Tryd.f10, go_sem, r0, r1, r2, r3, r4, r5] <;> rfl
        · subst he
          have hF := HF.out.trans (wakeW_3 HCE.out HBE.out HGEQ.out HE7.out)
          subst hF
          go_wp2_with (refine wpList_store_blk (by rfl) 28 (.tmp 8) (.tmp 32) rfl w3.heap.size #[.int .i64 gn, .string gr] rfl rfl (old := _) (HGE.out _ HM6.out) (by kernel_rfl) rfl (by simp [Value.oneCell']) ?_; intro w7 gh uh; have hs1 := HB1.out.size; have hs3 := HB3.out.size; have hsL := HL3.out.size; have hsW : W.heap.size = w.heap.size + 2 := HWZ.out; have hl1 : w1.heap.size < w2.heap.size := HLT.out; have HG07 := Lib.hid (blk_upd (HG0.out _ HB6.out) uh (by omega)); have HG17 := Lib.hid (blk_upd (HG1.out _ HB6.out) uh (by omega)); have HGD7 := Lib.hid (blk_upd (HGD.out _ HL6.out) uh (by omega)); have HB7 := Lib.hid (below_upd (HW0.out.trans (HB6.out.mono HW0.out.size)) uh (by omega) (HW0.out.trans (HB6.out.mono HW0.out.size)).size); have HN7 := Lib.hid (HN6.out.updT uh (HGE.out _ HM6.out) (by decide)); clear uh hs1 hs3 hsL hsW hl1 c0 c1 c2 c3 c4 c5 d0 d1 dz0 dz1; obtain ⟨c0, c1, c2, c3, c4, c5⟩ := six_cells (HG07.out); obtain ⟨d0, d1, dz0, dz1⟩ := cell_of_two (HGD7.out); obtain ⟨f0, f1, fz0, fz1⟩ := cell_of_two (gh))
          have gD := HGD7.out
          have gE := gh
          have g0 := HG07.out
          have hs1 := HB1.out.size
          have hs3 := HB3.out.size
          have hsW : W.heap.size = w.heap.size + 2 := HWZ.out
          clear c0 c1 c2 c3 c4 c5 d0 d1 dz0 dz1 f0 f1 fz0 fz1
          obtain ⟨wA, hwA⟩ : ∃ X, w7.drew = X := ⟨_, rfl⟩
          have hdr : Below w7.heap.size w7 wA := by rw [← hwA]; exact (Below.refl _ _).drew
          have gDA := blk_below gD hdr
          have gEA := blk_below gE hdr
          have g0A := blk_below g0 hdr
          have HG1A := Lib.hid (blk_below (HG17.out) hdr)
          have HBA := Lib.hid (HB7.out.trans (hdr.mono HB7.out.size))
          have HNA := Lib.hid (HN7.out.trans (.inl ⟨rfl, rfl⟩) hdr (HB7.out).size)
          obtain ⟨d0, d1, dz0, dz1⟩ := cell_of_two (gDA)
          obtain ⟨f0, f1, fz0, fz1⟩ := cell_of_two (gEA)
          refine Sole.wp_region_order [(0, false), (1, false), (2, false), (3, true), (4, false), (5, true)] (fun w' => (w'.cell? ⟨w1.heap.size, 0, none⟩ = some (.slice a2 fl.length p2) ∧ w'.cell? ⟨w1.heap.size, 1, none⟩ = some (.int .i64 fz)) ∧ w'.cell? ⟨w3.heap.size, 0, none⟩ = some (.int .i64 gn) ∧ w'.cell? ⟨w3.heap.size, 1, none⟩ = some (.string gr)) (by kernel_rfl) (by kernel_rfl) rfl (by kernel_rfl) (by intro _ _ d _ _ h; cases d <;> exact h) (hwA ▸ ⟨⟨d0, d1⟩, f0, f1⟩) ?_; simp only [List.map_cons, List.map_nil, List.getElem?_toArray, List.getElem?_cons_zero, List.getElem?_cons_succ, Option.getD_some]
          rw [hwA]
          clear hwA hdr gD gE g0
          repeat (first | (refine Sole.ro_q (by rfl) (v := ?_) ?_ ?_; rotate_left; (focus (intro w' hSw; (try dsimp only at hSw); go_simp; try with_reducible rfl)); simp only [Act.put, List.setIfInBounds_toArray, List.set_cons_zero, List.set_cons_succ]) | (refine Sole.ro_skip (by rfl) ?_; simp only [Act.put, List.setIfInBounds_toArray, List.set_cons_zero, List.set_cons_succ]))
          (refine Sole.ro_loud (by rfl) (fun K hK => ?_))
          refine wp_store_seg 26 (.tmp 44) (.tmp 42) rfl w.heap.size 2 #[.slice a2 fl.length p2, .int .i64 fz] rfl rfl (old := _) g0A (by kernel_rfl) (by simp) (by simp [Value.oneCell']) ?_
          intro wB gB uB
          have gB : wB.heap[w.heap.size]? = some (.cells #[.int .i64 x.who, .string x.key, .slice a2 fl.length p2, .int .i64 fz, .int .i64 x.seen.1, .string x.seen.2] 30 (0, 0)) := gB
          clear d0 d1 dz0 dz1 f0 f1 fz0 fz1
          obtain ⟨d0, d1, dz0, dz1⟩ := cell_of_two (blk_upd gDA uB (by omega))
          obtain ⟨f0, f1, fz0, fz1⟩ := cell_of_two (blk_upd gEA uB (by omega))
          (refine hK.out _ _ (fun w' => (w'.cell? ⟨w1.heap.size, 0, none⟩ = some (.slice a2 fl.length p2) ∧ w'.cell? ⟨w1.heap.size, 1, none⟩ = some (.int .i64 fz)) ∧ w'.cell? ⟨w3.heap.size, 0, none⟩ = some (.int .i64 gn) ∧ w'.cell? ⟨w3.heap.size, 1, none⟩ = some (.string gr)) (.inl fun _ h => h) (⟨⟨d0, d1⟩, f0, f1⟩) ?_; clear hK K; try simp only [Act.put, List.setIfInBounds_toArray, List.set_cons_zero, List.set_cons_succ])
          repeat (first | (refine Sole.ro_q (by rfl) (v := ?_) ?_ ?_; rotate_left; (focus (intro w' hSw; (try dsimp only at hSw); go_simp; try with_reducible rfl)); simp only [Act.put, List.setIfInBounds_toArray, List.set_cons_zero, List.set_cons_succ]) | (refine Sole.ro_skip (by rfl) ?_; simp only [Act.put, List.setIfInBounds_toArray, List.set_cons_zero, List.set_cons_succ]))
          (refine Sole.ro_loud (by rfl) (fun K hK => ?_))
          refine wp_store_seg 28 (.tmp 45) (.tmp 43) rfl w.heap.size 4 #[.int .i64 gn, .string gr] rfl rfl (old := _) gB (by kernel_rfl) (by simp) (by simp [Value.oneCell']) ?_
          intro wC gC uC
          have gC : wC.heap[w.heap.size]? = some (.cells #[.int .i64 x.who, .string x.key, .slice a2 fl.length p2, .int .i64 fz, .int .i64 gn, .string gr] 30 (0, 0)) := gC
          have HG1C := Lib.hid (blk_upd (blk_upd HG1A.out uB (by omega)) uC (by omega))
          have hbB := below_upd HBA.out uB (Nat.le_refl _) HBA.out.size
          have HBC := Lib.hid (below_upd hbB uC (Nat.le_refl _) hbB.size)
          have HNC := Lib.hid ((HNA.out.updT uB g0A (by decide)).updT uC gB (by decide))
          clear d0 d1 dz0 dz1 f0 f1 fz0 fz1
          obtain ⟨c0, c1, c2, c3, c4, c5⟩ := six_cells (gC)
          clear hbB
          (refine hK.out _ _ (fun _ => True) (.inr (by kernel_rfl)) (trivial) ?_; clear hK K; try simp only [Act.put, List.setIfInBounds_toArray, List.set_cons_zero, List.set_cons_succ])
          repeat (first | (refine Sole.ro_q (by rfl) (v := ?_) ?_ ?_; rotate_left; (focus (intro w' hSw; (try dsimp only at hSw); go_simp; try with_reducible rfl)); simp only [Act.put, List.setIfInBounds_toArray, List.set_cons_zero, List.set_cons_succ]) | (refine Sole.ro_skip (by rfl) ?_; simp only [Act.put, List.setIfInBounds_toArray, List.set_cons_zero, List.set_cons_succ]))
          refine Sole.ro_nil ?_
          go_wp2_with (refine wpList_store_blk (by rfl) 30 (.tmp 4) (.tmp 46) rfl (w.heap.size + 1) #[.int .i64 x.who, .string x.key, .slice a2 fl.length p2, .int .i64 fz, .int .i64 gn, .string gr] rfl rfl (old := _) (HG1C.out) (by kernel_rfl) rfl (by simp [Value.oneCell']) ?_; intro wz gz uz)
          obtain ⟨r0, r1, r2, r3, r4, r5⟩ := six_cells (gz)
          refine bodyPost_ret (v := .tuple #[.agg #[.int .i64 x.who, .string x.key, .slice a2 fl.length p2, .int .i64 fz, .int .i64 gn, .string gr], .int .i64 0]) ?_ rfl ⟨_, rfl, below_upd (HBC.out) uz (by omega) (HBC.out).size, HNC.out.updT uz HG1C.out (by decide)⟩
          simp [results, Tryd.f10, go_sem, r0, r1, r2, r3, r4, r5] <;> rfl
      · have he0 : eg ≠ 0 := fun k => he (.inl k)
        have he7 : eg ≠ 7 := fun k => he (.inr k)
        have hF := HF.out.trans (wakeW_2 HCE.out HBE.out HGEQ.out he0 he7)
        subst hF
        have n1 : (eg == 0) = false := beq_eq_false_iff_ne.2 he0
        have n2 : (eg != 0) = true := by rw [bne, n1]; rfl
        have n3 : (eg == 7) = false := beq_eq_false_iff_ne.2 he7
        have n4 : (eg != 7) = true := by rw [bne, n3]; rfl
        clear he he0 he7
        go_wp2_with (first | (refine wpList_store_blk (by rfl) 28 (.tmp 8) (.tmp 32) rfl w3.heap.size #[.int .i64 gn, .string gr] rfl rfl (old := _) (HGE.out _ HM6.out) (by kernel_rfl) rfl (by simp [Value.oneCell']) ?_; intro w7 gh uh; have hs1 := HB1.out.size; have hs3 := HB3.out.size; have hsL := HL3.out.size; have hsW : W.heap.size = w.heap.size + 2 := HWZ.out; have hl1 : w1.heap.size < w2.heap.size := HLT.out; have HG07 := Lib.hid (blk_upd (HG0.out _ HB6.out) uh (by omega)); have HG17 := Lib.hid (blk_upd (HG1.out _ HB6.out) uh (by omega)); have HGD7 := Lib.hid (blk_upd (HGD.out _ HL6.out) uh (by omega)); have HB7 := Lib.hid (below_upd (HW0.out.trans (HB6.out.mono HW0.out.size)) uh (by omega) (HW0.out.trans (HB6.out.mono HW0.out.size)).size); have HN7 := Lib.hid (HN6.out.updT uh (HGE.out _ HM6.out) (by decide)); clear uh hs1 hs3 hsL hsW hl1 c0 c1 c2 c3 c4 c5 d0 d1 dz0 dz1; obtain ⟨c0, c1, c2, c3, c4, c5⟩ := six_cells (HG07.out); obtain ⟨d0, d1, dz0, dz1⟩ := cell_of_two (HGD7.out); obtain ⟨f0, f1, fz0, fz1⟩ := cell_of_two (gh)) | (refine wpList_store_blk (by rfl) 30 (.tmp 4) (.tmp 40) rfl (w.heap.size + 1) #[.int .i64 x.who, .string x.key, .slice ao x.disk.files.length cp, .int .i64 x.disk.fuse, .int .i64 x.seen.1, .string x.seen.2] rfl rfl (old := _) (HG17.out) (by kernel_rfl) rfl (by simp [Value.oneCell']) ?_; intro wz gz uz))
        obtain ⟨r0, r1, r2, r3, r4, r5⟩ := six_cells (gz)
        refine bodyPost_ret (v := .tuple #[.agg #[.int .i64 x.who, .string x.key, .slice ao x.disk.files.length cp, .int .i64 x.disk.fuse, .int .i64 x.seen.1, .string x.seen.2], .int .i64 eg]) ?_ rfl ⟨_, rfl, below_upd (HB7.out) uz (by omega) (HB7.out).size, .inl ⟨rfl, rfl⟩⟩
        simp [results, Tryd.f10, go_sem, r0, r1, r2, r3, r4, r5] <;> rfl
    · have n1 : (eb == 0) = false := beq_eq_false_iff_ne.2 hb0
      have n2 : (eb != 0) = true := by rw [bne, n1]; rfl
      by_cases h7 : eb = 7
      · subst h7
        have hF := HF.out.trans ((wakeW_4 HCE.out HBE.out).trans (by unfold emptyH; rw [← HRE.out]))
        subst hF
        have gD := HGD.out _ HL5.out
        have gE := HGE.out _ HM5.out
        have g0 := HG0.out _ HB5.out
        have hs1 := HB1.out.size
        have hs3 := HB3.out.size
        have hsW : W.heap.size = w.heap.size + 2 := HWZ.out
        go_wp2_with fail
        clear c0 c1 c2 c3 c4 c5 d0 d1 dz0 dz1 f0 f1 fz0 fz1
        obtain ⟨wA, hwA⟩ : ∃ X, w5.drew = X := ⟨_, rfl⟩
        have hdr : Below w5.heap.size w5 wA := by rw [← hwA]; exact (Below.refl _ _).drew
        have gDA := blk_below gD hdr
        have gEA := blk_below gE hdr
        have g0A := blk_below g0 hdr
        have HG1A := Lib.hid (blk_below (HG1.out _ HB5.out) hdr)
        have HBA := Lib.hid ((HW0.out.trans (HB5.out.mono HW0.out.size)).trans (hdr.mono (HW0.out.trans (HB5.out.mono HW0.out.size)).size))
        have HNA := Lib.hid (HN5.out.trans (.inl ⟨rfl, rfl⟩) hdr (HW0.out.trans (HB5.out.mono HW0.out.size)).size)
        obtain ⟨d0, d1, dz0, dz1⟩ := cell_of_two (gDA)
        obtain ⟨f0, f1, fz0, fz1⟩ := cell_of_two (gEA)
        refine Sole.wp_region_order [(0, false), (1, false), (2, false), (3, true), (4, false), (5, true)] (fun w' => (w'.cell? ⟨w1.heap.size, 0, none⟩ = some (.slice a2 fl.length p2) ∧ w'.cell? ⟨w1.heap.size, 1, none⟩ = some (.int .i64 fz)) ∧ w'.cell? ⟨w3.heap.size, 0, none⟩ = some (.int .i64 0) ∧ w'.cell? ⟨w3.heap.size, 1, none⟩ = some (.string re)) (by kernel_rfl) (by kernel_rfl) rfl (by kernel_rfl) (by intro _ _ d _ _ h; cases d <;> exact h) (hwA ▸ ⟨⟨d0, d1⟩, f0, f1⟩) ?_; simp only [List.map_cons, List.map_nil, List.getElem?_toArray, List.getElem?_cons_zero, List.getElem?_cons_succ, Option.getD_some]
        rw [hwA]
        clear hwA hdr gD gE g0
        repeat (first | (refine Sole.ro_q (by rfl) (v := ?_) ?_ ?_; rotate_left; (focus (intro w' hSw; (try dsimp only at hSw); go_simp; try with_reducible rfl)); simp only [Act.put, List.setIfInBounds_toArray, List.set_cons_zero, List.set_cons_succ]) | (refine Sole.ro_skip (by rfl) ?_; simp only [Act.put, List.setIfInBounds_toArray, List.set_cons_zero, List.set_cons_succ]))
        (refine Sole.ro_loud (by rfl) (fun K hK => ?_))
        refine wp_store_seg 26 (.tmp 44) (.tmp 42) rfl w.heap.size 2 #[.slice a2 fl.length p2, .int .i64 fz] rfl rfl (old := _) g0A (by kernel_rfl) (by simp) (by simp [Value.oneCell']) ?_
        intro wB gB uB
        have gB : wB.heap[w.heap.size]? = some (.cells #[.int .i64 x.who, .string x.key, .slice a2 fl.length p2, .int .i64 fz, .int .i64 x.seen.1, .string x.seen.2] 30 (0, 0)) := gB
        clear d0 d1 dz0 dz1 f0 f1 fz0 fz1
        obtain ⟨d0, d1, dz0, dz1⟩ := cell_of_two (blk_upd gDA uB (by omega))
        obtain ⟨f0, f1, fz0, fz1⟩ := cell_of_two (blk_upd gEA uB (by omega))
        (refine hK.out _ _ (fun w' => (w'.cell? ⟨w1.heap.size, 0, none⟩ = some (.slice a2 fl.length p2) ∧ w'.cell? ⟨w1.heap.size, 1, none⟩ = some (.int .i64 fz)) ∧ w'.cell? ⟨w3.heap.size, 0, none⟩ = some (.int .i64 0) ∧ w'.cell? ⟨w3.heap.size, 1, none⟩ = some (.string re)) (.inl fun _ h => h) (⟨⟨d0, d1⟩, f0, f1⟩) ?_; clear hK K; try simp only [Act.put, List.setIfInBounds_toArray, List.set_cons_zero, List.set_cons_succ])
        repeat (first | (refine Sole.ro_q (by rfl) (v := ?_) ?_ ?_; rotate_left; (focus (intro w' hSw; (try dsimp only at hSw); go_simp; try with_reducible rfl)); simp only [Act.put, List.setIfInBounds_toArray, List.set_cons_zero, List.set_cons_succ]) | (refine Sole.ro_skip (by rfl) ?_; simp only [Act.put, List.setIfInBounds_toArray, List.set_cons_zero, List.set_cons_succ]))
        (refine Sole.ro_loud (by rfl) (fun K hK => ?_))
        refine wp_store_seg 28 (.tmp 45) (.tmp 43) rfl w.heap.size 4 #[.int .i64 0, .string re] rfl rfl (old := _) gB (by kernel_rfl) (by simp) (by simp [Value.oneCell']) ?_
        intro wC gC uC
        have gC : wC.heap[w.heap.size]? = some (.cells #[.int .i64 x.who, .string x.key, .slice a2 fl.length p2, .int .i64 fz, .int .i64 0, .string re] 30 (0, 0)) := gC
        have HG1C := Lib.hid (blk_upd (blk_upd HG1A.out uB (by omega)) uC (by omega))
        have hbB := below_upd HBA.out uB (Nat.le_refl _) HBA.out.size
        have HBC := Lib.hid (below_upd hbB uC (Nat.le_refl _) hbB.size)
        have HNC := Lib.hid ((HNA.out.updT uB g0A (by decide)).updT uC gB (by decide))
        clear d0 d1 dz0 dz1 f0 f1 fz0 fz1
        obtain ⟨c0, c1, c2, c3, c4, c5⟩ := six_cells (gC)
        clear hbB
        (refine hK.out _ _ (fun _ => True) (.inr (by kernel_rfl)) (trivial) ?_; clear hK K; try simp only [Act.put, List.setIfInBounds_toArray, List.set_cons_zero, List.set_cons_succ])
        repeat (first | (refine Sole.ro_q (by rfl) (v := ?_) ?_ ?_; rotate_left; (focus (intro w' hSw; (try dsimp only at hSw); go_simp; try with_reducible rfl)); simp only [Act.put, List.setIfInBounds_toArray, List.set_cons_zero, List.set_cons_succ]) | (refine Sole.ro_skip (by rfl) ?_; simp only [Act.put, List.setIfInBounds_toArray, List.set_cons_zero, List.set_cons_succ]))
        refine Sole.ro_nil ?_
        go_wp2_with (refine wpList_store_blk (by rfl) 30 (.tmp 4) (.tmp 46) rfl (w.heap.size + 1) #[.int .i64 x.who, .string x.key, .slice a2 fl.length p2, .int .i64 fz, .int .i64 0, .string re] rfl rfl (old := _) (HG1C.out) (by kernel_rfl) rfl (by simp [Value.oneCell']) ?_; intro wz gz uz)
        obtain ⟨r0, r1, r2, r3, r4, r5⟩ := six_cells (gz)
        refine bodyPost_ret (v := .tuple #[.agg #[.int .i64 x.who, .string x.key, .slice a2 fl.length p2, .int .i64 fz, .int .i64 0, .string re], .int .i64 0]) ?_ rfl ⟨_, rfl, below_upd (HBC.out) uz (by omega) (HBC.out).size, HNC.out.updT uz HG1C.out (by decide)⟩
        simp [results, Tryd.f10, go_sem, r0, r1, r2, r3, r4, r5] <;> rfl
      · have n3 : (eb == 7) = false := beq_eq_false_iff_ne.2 h7
        have n4 : (eb != 7) = true := by rw [bne, n3]; rfl
        have hF := HF.out.trans (wakeW_5 HCE.out HBE.out hb0 h7)
        subst hF
        clear hb0 h7
        go_wp2_with (refine wpList_store_blk (by rfl) 30 (.tmp 4) (.tmp 40) rfl (w.heap.size + 1) #[.int .i64 x.who, .string x.key, .slice ao x.disk.files.length cp, .int .i64 x.disk.fuse, .int .i64 x.seen.1, .string x.seen.2] rfl rfl (old := _) (HG1.out _ HB5.out) (by kernel_rfl) rfl (by simp [Value.oneCell']) ?_; intro wz gz uz)
        obtain ⟨r0, r1, r2, r3, r4, r5⟩ := six_cells (gz)
        refine bodyPost_ret (v := .tuple #[.agg #[.int .i64 x.who, .string x.key, .slice ao x.disk.files.length cp, .int .i64 x.disk.fuse, .int .i64 x.seen.1, .string x.seen.2], .int .i64 eb]) ?_ rfl ⟨_, rfl, below_upd (HW0.out.trans (HB5.out.mono HW0.out.size)) uz (by omega) (HW0.out.trans (HB5.out.mono HW0.out.size)).size, .inl ⟨rfl, rfl⟩⟩
        simp [results, Tryd.f10, go_sem, r0, r1, r2, r3, r4, r5] <;> rfl
  · have n1 : (ec == 0) = false := beq_eq_false_iff_ne.2 hc
    have n2 : (ec != 0) = true := by rw [bne, n1]; rfl
    have hF := HF.out.trans (wakeW_1 HCE.out hc)
    subst hF
    clear hc
    go_wp2_with (first | (refine wpList_store_blk (by rfl) 26 (.tmp 6) (.tmp 15) rfl w1.heap.size #[.slice a2 fl.length p2, .int .i64 fz] rfl rfl (old := _) (heap_alloc_new _ _) (by kernel_rfl) rfl (by simp [Value.oneCell']) ?_; intro w2 gd ud; have hb2 := below_upd ((Below.refl w1.heap.size w1).alloc (Nat.le_refl _) _) ud (Nat.le_refl _) (by simp); have HB2 := Lib.hid (HB1.out.trans (hb2.mono HB1.out.size)); have HN2 := Lib.hid (HN1.out.trans (.inl ⟨rfl, rfl⟩) hb2 (HW0.out.trans (HB1.out.mono HW0.out.size)).size); have HD2 := Lib.hid (HD1.out.below hb2); have HGD := Lib.hid (fun wr (h : Below w2.heap.size w2 wr) => blk_below gd h); have HLT := Lib.hid (Array.getElem?_eq_some_iff.1 gd).1; clear gd ud hb2 c0 c1 c2 c3 c4 c5; obtain ⟨c0, c1, c2, c3, c4, c5⟩ := six_cells (HG0.out _ HB2.out)) | (refine wpList_store_blk (by rfl) 30 (.tmp 4) (.tmp 19) rfl (w.heap.size + 1) #[.int .i64 x.who, .string x.key, .slice ao x.disk.files.length cp, .int .i64 x.disk.fuse, .int .i64 x.seen.1, .string x.seen.2] rfl rfl (old := _) (HG1.out _ HB2.out) (by kernel_rfl) rfl (by simp [Value.oneCell']) ?_; intro wz gz uz))
    obtain ⟨r0, r1, r2, r3, r4, r5⟩ := six_cells (gz)
    refine bodyPost_ret (v := .tuple #[.agg #[.int .i64 x.who, .string x.key, .slice ao x.disk.files.length cp, .int .i64 x.disk.fuse, .int .i64 x.seen.1, .string x.seen.2], .int .i64 ec]) ?_ rfl ⟨_, rfl, below_upd (HW0.out.trans (HB2.out.mono HW0.out.size)) uz (by omega) (HW0.out.trans (HB2.out.mono HW0.out.size)).size, .inl ⟨rfl, rfl⟩⟩
    simp [results, Tryd.f10, go_sem, r0, r1, r2, r3, r4, r5] <;> rfl
end Go.Proofs.YtmacceamebdelaaDoor
