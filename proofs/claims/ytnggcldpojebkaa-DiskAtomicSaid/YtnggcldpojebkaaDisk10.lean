/- Package disk's Save. -/
import Derived.Test.YtnggcldpojebkaaDisk9
namespace Go.Proofs.Ytnggcldpojebkaa
open Go.RowKit
set_option linter.unusedVariables false
set_option linter.unusedSimpArgs false

theorem step_fuse {d : Dsk} {op : List Fil → List Fil × Int} {l : List Fil} {f e : Int} (h : ((⟨l, f⟩, e) : Dsk × Int) = stepD namedD d op) (hf : -9223372036854775808 ≤ d.fuse ∧ d.fuse ≤ 9223372036854775807) : -9223372036854775808 ≤ f ∧ f ≤ 9223372036854775807 := by
  rcases step_cases namedD d op with ⟨h1, _⟩ | ⟨_, _, _, h1⟩
  · have : f = d.fuse := by rw [← h1, ← h]
    omega
  · have : f = if 0 < d.fuse then d.fuse - 1 else d.fuse := by have := congrArg (fun q : Dsk × Int => q.1.fuse) (h.trans h1); exact this
    split at this <;> omega
theorem named_size {s : ByteArray} (h : namedD s = true) : s.size ≤ 80 := by
  unfold namedD at h
  simp only [Bool.and_eq_true, decide_eq_true_eq] at h
  exact h.2.1
noncomputable def tailS (d : Dsk) (name s : ByteArray) : Dsk × Int :=
  if (writeD namedD d (name ++ dotNew) s).2 ≠ 0 then writeD namedD d (name ++ dotNew) s else
  if (syncD namedD (writeD namedD d (name ++ dotNew) s).1 (name ++ dotNew)).2 ≠ 0 then syncD namedD (writeD namedD d (name ++ dotNew) s).1 (name ++ dotNew) else
  renameD namedD (syncD namedD (writeD namedD d (name ++ dotNew) s).1 (name ++ dotNew)).1 (name ++ dotNew) name
theorem tail_1 {d : Dsk} {name s : ByteArray} {q : Dsk × Int} (h : q = writeD namedD d (name ++ dotNew) s) (h2 : q.2 ≠ 0) : tailS d name s = q := by
  unfold tailS; rw [← h, if_pos h2]
theorem tail_2 {d : Dsk} {name s : ByteArray} {q p : Dsk × Int} (h : q = writeD namedD d (name ++ dotNew) s) (h2 : q.2 = 0) (h3 : p = syncD namedD q.1 (name ++ dotNew)) (h4 : p.2 ≠ 0) : tailS d name s = p := by
  unfold tailS; rw [← h, if_neg (fun k => k h2), ← h3, if_pos h4]
theorem tail_3 {d : Dsk} {name s : ByteArray} {q p : Dsk × Int} (h : q = writeD namedD d (name ++ dotNew) s) (h2 : q.2 = 0) (h3 : p = syncD namedD q.1 (name ++ dotNew)) (h4 : p.2 = 0) : tailS d name s = renameD namedD p.1 (name ++ dotNew) name := by
  unfold tailS; rw [← h, if_neg (fun k => k h2), ← h3, if_neg (fun k => k h4)]
theorem save_1 {d : Dsk} {name s : ByteArray} (h : ¬ GoodL namedD d.files) : saveD namedD d name s = (d, 3) := by unfold saveD; rw [if_pos h]
theorem save_2 {d : Dsk} {name s : ByteArray} (h : GoodL namedD d.files) (h2 : namedD name = false ∨ namedD (name ++ dotNew) = false) : saveD namedD d name s = (d, 2) := by unfold saveD; rw [if_neg (fun k => k h), if_pos h2]
theorem save_3 {d : Dsk} {name s : ByteArray} (h : GoodL namedD d.files) (h2 : ¬ (namedD name = false ∨ namedD (name ++ dotNew) = false)) (h3 : fget (name ++ dotNew) d.files = none) : saveD namedD d name s = tailS d name s := by
  unfold saveD tailS
  rw [if_neg (fun k => k h), if_neg h2, if_pos h3]
  simp only
  rw [if_neg (fun k => k rfl)]
theorem save_4 {d : Dsk} {name s : ByteArray} {q : Dsk × Int} (h : GoodL namedD d.files) (h2 : ¬ (namedD name = false ∨ namedD (name ++ dotNew) = false)) (h3 : fget (name ++ dotNew) d.files ≠ none) (h4 : q = removeD namedD d (name ++ dotNew)) (h5 : q.2 ≠ 0) : saveD namedD d name s = q := by
  unfold saveD
  rw [if_neg (fun k => k h), if_neg h2, if_neg h3, ← h4]
  simp only
  rw [if_pos h5]
theorem save_5 {d : Dsk} {name s : ByteArray} {q : Dsk × Int} (h : GoodL namedD d.files) (h2 : ¬ (namedD name = false ∨ namedD (name ++ dotNew) = false)) (h3 : fget (name ++ dotNew) d.files ≠ none) (h4 : q = removeD namedD d (name ++ dotNew)) (h5 : q.2 = 0) : saveD namedD d name s = tailS q.1 name s := by
  unfold saveD tailS
  rw [if_neg (fun k => k h), if_neg h2, if_neg h3, ← h4]
  simp only
  rw [if_neg (fun k => k h5)]
set_option maxRecDepth 100000 in
set_option maxHeartbeats 3200000 in
theorem save_any (l0 : List Fil) (f0 : Int) (hfu : -9223372036854775808 ≤ f0 ∧ f0 ≤ 9223372036854775807) (v : Value) (w : World) (hr : rdF w v l0) (name s : ByteArray) :
    Calls Try.prog 21 #[.agg #[v, .int .i64 f0], .string name, .string s] w (RetD w (saveD namedD ⟨l0, f0⟩ name s)) := by
  obtain ⟨r, hr0⟩ : ∃ r, r = saveD namedD ⟨l0, f0⟩ name s := ⟨_, rfl⟩
  rw [← hr0]
  have HRR := Lib.hid hr0
  obtain ⟨a0, p0, hv⟩ := rd_form hr
  subst hv
  obtain ⟨W, hW⟩ : ∃ W, (w.alloc (.cells #[.slice a0 l0.length p0, .int .i64 f0] 30)).alloc (.cells #[.slice none 0 0, .int .i64 0] 30) = W := ⟨_, rfl⟩
  have hbW : Below w.heap.size w W := by rw [← hW]; exact ((Below.refl _ _).alloc (Nat.le_refl _) _).alloc (by simp) _
  have g0 : W.heap[w.heap.size]? = some (.cells #[.slice a0 l0.length p0, .int .i64 f0] 30 (0, 0)) := by rw [← hW]; exact heap_old (heap_alloc_new _ _)
  have g1 : W.heap[w.heap.size + 1]? = some (.cells #[.slice none 0 0, .int .i64 0] 30 (0, 0)) := by rw [← hW]; exact heap_new (by simp)
  have HBW := Lib.hid hbW
  have HG := Lib.hid (fun w' (h : Below W.heap.size W w') => blk_below g0 h)
  have HZ := Lib.hid (fun w' (h : Below W.heap.size W w') => blk_below g1 h)
  have HGD := Lib.hid (goodD_any l0 _ f0 W (hr.below hbW))
  have HRW := Lib.hid (hr.below hbW)
  have HF0 := Lib.hid hfu
  obtain ⟨c0, c1, z0, z1⟩ := cell_of_two g0
  clear hr hr0 hbW g0 g1 hfu
  go_enter Try.func21, Try.ntmps21
  go_wp2_with fail
  (with_reducible refine HGD.out.mono ?_)
  rintro e w1 ⟨rfl, hb⟩
  clear HGD c0 c1 z0 z1 hW
  by_cases hgood : GoodL namedD l0
  · rw [goodB_true hgood]
    obtain ⟨nm1, hnm1⟩ : ∃ b, b = namedD name := ⟨_, rfl⟩
    have HN1 := Lib.hid (namedD_any name w1)
    rw [← hnm1] at HN1
    go_wp2_with fail
    (with_reducible refine HN1.out.mono ?_)
    rintro e w2 ⟨rfl, hb2⟩
    have HC2 := Lib.hid (hb.trans (hb2.mono hb.size))
    have HM1 := Lib.hid hnm1.symm
    clear hb hb2 HN1 hnm1
    cases nm1 with
    | false =>
      have HG0 := Lib.hid (HG.out _ HC2.out)
      have HZ0 := Lib.hid (HZ.out _ HC2.out)
      have HR0 := Lib.hid (HRW.out.below HC2.out)
      have HB0 := Lib.hid (HBW.out.trans ((HC2.out).mono HBW.out.size))
      obtain ⟨c0, c1, z0, z1⟩ := cell_of_two HG0.out
      obtain ⟨d0, d1, y0, y1⟩ := cell_of_two HZ0.out
      have hr1 := HRR.out.trans (save_2 (d := ⟨l0, f0⟩) hgood (.inl HM1.out))
      subst hr1
      go_wp2_with fail
      have hgf := two_setCell1 (u := .int .i64 f0) (two_setCell0 (u := .slice a0 l0.length p0) HZ0.out)
      obtain ⟨e0, e1, _, _⟩ := cell_of_two hgf
      have hbf := set2_below HB0.out (g := w.heap.size + 1) (Nat.le_succ _) (.slice a0 l0.length p0) (.int .i64 f0)
      refine bodyPost_ret (v := .tuple #[.agg #[.slice a0 l0.length p0, .int .i64 f0], .int .i64 (2)]) ?_ rfl ⟨_, rfl, rdF_upd HR0.out (set2_upd _ _) (no_str HZ0.out), hbf⟩
      simp [results, Try.f21, go_sem, e0, e1]
    | true =>
      have hsum : (name.size : Int) + 4 ≤ 9223372036854775807 := by have := named_size HM1.out; omega
      obtain ⟨nn, hnn⟩ : ∃ nn, name ++ (⟨#[46, 110, 101, 119]⟩ : ByteArray) = nn := ⟨_, rfl⟩
      have HNN := Lib.hid (show name ++ dotNew = nn from hnn)
      obtain ⟨nm2, hnm2⟩ : ∃ b, b = namedD nn := ⟨_, rfl⟩
      have HN2 := Lib.hid (namedD_any nn w2)
      rw [← hnm2] at HN2
      have HM2 := Lib.hid hnm2.symm
      clear hnm2
      go_wp2_with fail
      (with_reducible refine HN2.out.mono ?_)
      rintro e w3 ⟨rfl, hb3⟩
      have HC3 := Lib.hid (HC2.out.trans (hb3.mono HC2.out.size))
      clear hb3 HN2
      cases nm2 with
      | false =>
        have HG0 := Lib.hid (HG.out _ HC3.out)
        have HZ0 := Lib.hid (HZ.out _ HC3.out)
        have HR0 := Lib.hid (HRW.out.below HC3.out)
        have HB0 := Lib.hid (HBW.out.trans ((HC3.out).mono HBW.out.size))
        obtain ⟨c0, c1, z0, z1⟩ := cell_of_two HG0.out
        obtain ⟨d0, d1, y0, y1⟩ := cell_of_two HZ0.out
        have hr1 := HRR.out.trans (save_2 (d := ⟨l0, f0⟩) hgood (.inr (by rw [HNN.out]; exact HM2.out)))
        subst hr1
        go_wp2_with fail
        have hgf := two_setCell1 (u := .int .i64 f0) (two_setCell0 (u := .slice a0 l0.length p0) HZ0.out)
        obtain ⟨e0, e1, _, _⟩ := cell_of_two hgf
        have hbf := set2_below HB0.out (g := w.heap.size + 1) (Nat.le_succ _) (.slice a0 l0.length p0) (.int .i64 f0)
        refine bodyPost_ret (v := .tuple #[.agg #[.slice a0 l0.length p0, .int .i64 f0], .int .i64 (2)]) ?_ rfl ⟨_, rfl, rdF_upd HR0.out (set2_upd _ _) (no_str HZ0.out), hbf⟩
        simp [results, Try.f21, go_sem, e0, e1]
      | true =>
        have HNO := Lib.hid (show ¬ (namedD name = false ∨ namedD (name ++ dotNew) = false) by rw [HNN.out, HM1.out, HM2.out]; simp)
        have HGOOD := Lib.hid hgood
        have HG0 := Lib.hid (HG.out _ HC3.out)
        have HZ0 := Lib.hid (HZ.out _ HC3.out)
        have HR0 := Lib.hid (HRW.out.below HC3.out)
        have HB0 := Lib.hid (HBW.out.trans ((HC3.out).mono HBW.out.size))
        obtain ⟨c0, c1, z0, z1⟩ := cell_of_two HG0.out
        obtain ⟨d0, d1, y0, y1⟩ := cell_of_two HZ0.out
        have HFI := Lib.hid (find_any l0 nn _ f0 w3 hgood.srt HR0.out (by have := hgood.len; omega))
        obtain ⟨k, hk⟩ : ∃ k, k = fidx nn l0 := ⟨_, rfl⟩
        rw [← hk] at HFI
        clear hk hgood
        cases hg : fget nn l0 with
        | none =>
          rw [hg] at HFI
          go_wp2_with fail
          (with_reducible refine HFI.out.mono ?_)
          rintro e x0 ⟨rfl, hb4⟩
          have HC4 := Lib.hid (HC3.out.trans (hb4.mono HC3.out.size))
          clear hb4 HFI HG0 HZ0 HR0 HB0
          clear c0 c1 z0 z1 d0 d1 y0 y1
          have HG0 := Lib.hid (HG.out _ HC4.out)
          have HZ0 := Lib.hid (HZ.out _ HC4.out)
          have HR0 := Lib.hid (HRW.out.below HC4.out)
          have HB0 := Lib.hid (HBW.out.trans ((HC4.out).mono HBW.out.size))
          obtain ⟨c0, c1, z0, z1⟩ := cell_of_two HG0.out
          obtain ⟨d0, d1, y0, y1⟩ := cell_of_two HZ0.out
          have HLAW := Lib.hid (show r = tailS ⟨l0, f0⟩ name s from HRR.out.trans (save_3 (d := ⟨l0, f0⟩) HGOOD.out HNO.out (by rw [HNN.out]; exact hg)))
          obtain ⟨⟨⟨l0w, f0w⟩, e0w⟩, hq0w⟩ : ∃ q : Dsk × Int, q = writeD namedD ⟨l0, f0⟩ (name ++ dotNew) s := ⟨_, rfl⟩
          have HQ0w := Lib.hid hq0w
          have HF0w := Lib.hid (show -9223372036854775808 ≤ f0w ∧ f0w ≤ 9223372036854775807 from step_fuse hq0w HF0.out)
          have hcall := write_any l0 f0 HF0.out _ x0 HR0.out (name ++ dotNew) s
          rw [← hq0w, HNN.out] at hcall
          have HCALL := Lib.hid hcall
          clear hcall hq0w
          go_wp2_with fail
          (with_reducible refine (HCALL.out).mono ?_)
          rintro e u0w ⟨v', rfl, hrd, hb⟩
          obtain ⟨a0w, p0w, rfl⟩ := rd_form hrd
          have hbu := HB0.out.trans (hb.mono HB0.out.size)
          have hgu := blk_below HG0.out hb
          have hzu := blk_below HZ0.out hb
          obtain ⟨x0w, hx0w⟩ : ∃ x, (u0w.setCell ⟨w.heap.size, 0, none⟩ (.slice a0w l0w.length p0w)).setCell ⟨w.heap.size, 1, none⟩ (.int .i64 f0w) = x := ⟨_, rfl⟩
          have HG0w := Lib.hid (show x0w.heap[w.heap.size]? = some (.cells #[.slice a0w l0w.length p0w, .int .i64 f0w] 30 (0, 0)) by rw [← hx0w]; exact two_setCell1 (two_setCell0 hgu))
          have HZ0w := Lib.hid (show x0w.heap[w.heap.size + 1]? = some (.cells #[.slice none 0 0, .int .i64 0] 30 (0, 0)) by rw [← hx0w]; exact blk_upd hzu (set2_updF _ _) (by omega))
          have HR0w := Lib.hid (show rdF x0w (.slice a0w l0w.length p0w) l0w by rw [← hx0w]; exact rdF_upd hrd (set2_updF _ _) (no_str hgu))
          have HB0w := Lib.hid (show Below w.heap.size w x0w by rw [← hx0w]; exact set2_below hbu (Nat.le_refl _) _ _)
          clear c0 c1 z0 z1 d0 d1 y0 y1
          obtain ⟨c0, c1, z0, z1⟩ := cell_of_two hgu
          clear hrd hb hbu hgu hzu
          obtain ⟨C0, C1, Z0, Z1⟩ := cell_of_two HG0w.out
          obtain ⟨d0, d1, y0, y1⟩ := cell_of_two HZ0w.out
          skip
          by_cases he : e0w = 0
          · subst he
            clear HCALL
            obtain ⟨⟨⟨l0s, f0s⟩, e0s⟩, hq0s⟩ : ∃ q : Dsk × Int, q = syncD namedD ⟨l0w, f0w⟩ (name ++ dotNew) := ⟨_, rfl⟩
            have HQ0s := Lib.hid hq0s
            have HF0s := Lib.hid (show -9223372036854775808 ≤ f0s ∧ f0s ≤ 9223372036854775807 from step_fuse hq0s HF0w.out)
            have hcall := sync_any l0w f0w HF0w.out _ x0w HR0w.out (name ++ dotNew)
            rw [← hq0s, HNN.out] at hcall
            have HCALL := Lib.hid hcall
            clear hcall hq0s
            go_wp2_with fail
            (with_reducible refine (HCALL.out).mono ?_)
            rintro e u0s ⟨v', rfl, hrd, hb⟩
            obtain ⟨a0s, p0s, rfl⟩ := rd_form hrd
            have hbu := HB0w.out.trans (hb.mono HB0w.out.size)
            have hgu := blk_below HG0w.out hb
            have hzu := blk_below HZ0w.out hb
            obtain ⟨x0s, hx0s⟩ : ∃ x, (u0s.setCell ⟨w.heap.size, 0, none⟩ (.slice a0s l0s.length p0s)).setCell ⟨w.heap.size, 1, none⟩ (.int .i64 f0s) = x := ⟨_, rfl⟩
            have HG0s := Lib.hid (show x0s.heap[w.heap.size]? = some (.cells #[.slice a0s l0s.length p0s, .int .i64 f0s] 30 (0, 0)) by rw [← hx0s]; exact two_setCell1 (two_setCell0 hgu))
            have HZ0s := Lib.hid (show x0s.heap[w.heap.size + 1]? = some (.cells #[.slice none 0 0, .int .i64 0] 30 (0, 0)) by rw [← hx0s]; exact blk_upd hzu (set2_updF _ _) (by omega))
            have HR0s := Lib.hid (show rdF x0s (.slice a0s l0s.length p0s) l0s by rw [← hx0s]; exact rdF_upd hrd (set2_updF _ _) (no_str hgu))
            have HB0s := Lib.hid (show Below w.heap.size w x0s by rw [← hx0s]; exact set2_below hbu (Nat.le_refl _) _ _)
            clear C0 C1 Z0 Z1 d0 d1 y0 y1 c0 c1 z0 z1
            obtain ⟨c0, c1, z0, z1⟩ := cell_of_two hgu
            clear hrd hb hbu hgu hzu
            obtain ⟨C0, C1, Z0, Z1⟩ := cell_of_two HG0s.out
            obtain ⟨d0, d1, y0, y1⟩ := cell_of_two HZ0s.out
            skip
            by_cases he : e0s = 0
            · subst he
              clear HCALL
              have hr1 := HLAW.out.trans (tail_3 HQ0w.out rfl HQ0s.out rfl)
              obtain ⟨⟨lz, fz⟩, ez⟩ := r
              have hcall := rename_any l0s f0s HF0s.out _ x0s HR0s.out (name ++ dotNew) name
              rw [show renameD namedD ⟨l0s, f0s⟩ (name ++ dotNew) name = (⟨lz, fz⟩, ez) from hr1.symm, HNN.out] at hcall
              have HCALL := Lib.hid hcall
              clear hcall hr1 HLAW HRR
              go_wp2_with fail
              (with_reducible refine HCALL.out.mono ?_)
              rintro e uz ⟨v', rfl, hrd, hb⟩
              obtain ⟨az, pz, rfl⟩ := rd_form hrd
              have HRZ := Lib.hid hrd
              have HBZ := Lib.hid (HB0s.out.trans (hb.mono HB0s.out.size))
              have HZZ := Lib.hid (blk_below HZ0s.out hb)
              clear C0 C1 Z0 Z1 d0 d1 y0 y1 c0 c1 z0 z1
              clear hb hrd
              obtain ⟨d0, d1, y0, y1⟩ := cell_of_two HZZ.out
              go_wp2_with fail
              have hgf := two_setCell1 (u := .int .i64 fz) (two_setCell0 (u := .slice az lz.length pz) HZZ.out)
              obtain ⟨e0, e1, _, _⟩ := cell_of_two hgf
              have hbf := set2_below HBZ.out (g := w.heap.size + 1) (Nat.le_succ _) (.slice az lz.length pz) (.int .i64 fz)
              refine bodyPost_ret (v := .tuple #[.agg #[.slice az lz.length pz, .int .i64 fz], .int .i64 ez]) ?_ rfl ⟨_, rfl, rdF_upd HRZ.out (set2_upd _ _) (no_str HZZ.out), hbf⟩
              simp [results, Try.f21, go_sem, e0, e1]
            · have hr1 := HLAW.out.trans (tail_2 HQ0w.out rfl HQ0s.out he)
              subst hr1
              have hn1 : (e0s == 0) = false := beq_eq_false_iff_ne.2 he
              have hn2 : (e0s != 0) = true := by rw [bne, hn1]; rfl
              clear he
              go_wp2_with fail
              clear C0 C1 Z0 Z1 d0 d1 y0 y1 c0 c1 z0 z1
              have hgf := two_setCell1 (u := .int .i64 f0s) (two_setCell0 (u := .slice a0s l0s.length p0s) HZ0s.out)
              obtain ⟨e0, e1, _, _⟩ := cell_of_two hgf
              have hbf := set2_below HB0s.out (g := w.heap.size + 1) (Nat.le_succ _) (.slice a0s l0s.length p0s) (.int .i64 f0s)
              refine bodyPost_ret (v := .tuple #[.agg #[.slice a0s l0s.length p0s, .int .i64 f0s], .int .i64 (e0s)]) ?_ rfl ⟨_, rfl, rdF_upd HR0s.out (set2_upd _ _) (no_str HZ0s.out), hbf⟩
              simp [results, Try.f21, go_sem, e0, e1]
          · have hr1 := HLAW.out.trans (tail_1 HQ0w.out he)
            subst hr1
            have hn1 : (e0w == 0) = false := beq_eq_false_iff_ne.2 he
            have hn2 : (e0w != 0) = true := by rw [bne, hn1]; rfl
            clear he
            go_wp2_with fail
            clear C0 C1 Z0 Z1 d0 d1 y0 y1 c0 c1 z0 z1
            have hgf := two_setCell1 (u := .int .i64 f0w) (two_setCell0 (u := .slice a0w l0w.length p0w) HZ0w.out)
            obtain ⟨e0, e1, _, _⟩ := cell_of_two hgf
            have hbf := set2_below HB0w.out (g := w.heap.size + 1) (Nat.le_succ _) (.slice a0w l0w.length p0w) (.int .i64 f0w)
            refine bodyPost_ret (v := .tuple #[.agg #[.slice a0w l0w.length p0w, .int .i64 f0w], .int .i64 (e0w)]) ?_ rfl ⟨_, rfl, rdF_upd HR0w.out (set2_upd _ _) (no_str HZ0w.out), hbf⟩
            simp [results, Try.f21, go_sem, e0, e1]
        | some fx =>
          rw [hg] at HFI
          go_wp2_with fail
          (with_reducible refine HFI.out.mono ?_)
          rintro e x0 ⟨rfl, hb4⟩
          have HC4 := Lib.hid (HC3.out.trans (hb4.mono HC3.out.size))
          clear hb4 HFI HG0 HZ0 HR0 HB0
          clear c0 c1 z0 z1 d0 d1 y0 y1
          have HG0 := Lib.hid (HG.out _ HC4.out)
          have HZ0 := Lib.hid (HZ.out _ HC4.out)
          have HR0 := Lib.hid (HRW.out.below HC4.out)
          have HB0 := Lib.hid (HBW.out.trans ((HC4.out).mono HBW.out.size))
          obtain ⟨c0, c1, z0, z1⟩ := cell_of_two HG0.out
          obtain ⟨d0, d1, y0, y1⟩ := cell_of_two HZ0.out
          have HSOME := Lib.hid (show fget (name ++ dotNew) l0 ≠ none by rw [HNN.out, hg]; simp)
          clear hg
          obtain ⟨⟨⟨lm, fm⟩, em⟩, hqm⟩ : ∃ q : Dsk × Int, q = removeD namedD ⟨l0, f0⟩ (name ++ dotNew) := ⟨_, rfl⟩
          have HQm := Lib.hid hqm
          have HFm := Lib.hid (show -9223372036854775808 ≤ fm ∧ fm ≤ 9223372036854775807 from step_fuse hqm HF0.out)
          have hcall := remove_any l0 f0 HF0.out _ x0 HR0.out (name ++ dotNew)
          rw [← hqm, HNN.out] at hcall
          have HCALL := Lib.hid hcall
          clear hcall hqm
          go_wp2_with fail
          (with_reducible refine (HCALL.out).mono ?_)
          rintro e um ⟨v', rfl, hrd, hb⟩
          obtain ⟨am, pm, rfl⟩ := rd_form hrd
          have hbu := HB0.out.trans (hb.mono HB0.out.size)
          have hgu := blk_below HG0.out hb
          have hzu := blk_below HZ0.out hb
          obtain ⟨xm, hxm⟩ : ∃ x, (um.setCell ⟨w.heap.size, 0, none⟩ (.slice am lm.length pm)).setCell ⟨w.heap.size, 1, none⟩ (.int .i64 fm) = x := ⟨_, rfl⟩
          have HGm := Lib.hid (show xm.heap[w.heap.size]? = some (.cells #[.slice am lm.length pm, .int .i64 fm] 30 (0, 0)) by rw [← hxm]; exact two_setCell1 (two_setCell0 hgu))
          have HZm := Lib.hid (show xm.heap[w.heap.size + 1]? = some (.cells #[.slice none 0 0, .int .i64 0] 30 (0, 0)) by rw [← hxm]; exact blk_upd hzu (set2_updF _ _) (by omega))
          have HRm := Lib.hid (show rdF xm (.slice am lm.length pm) lm by rw [← hxm]; exact rdF_upd hrd (set2_updF _ _) (no_str hgu))
          have HBm := Lib.hid (show Below w.heap.size w xm by rw [← hxm]; exact set2_below hbu (Nat.le_refl _) _ _)
          clear c0 c1 z0 z1 d0 d1 y0 y1
          obtain ⟨c0, c1, z0, z1⟩ := cell_of_two hgu
          clear hrd hb hbu hgu hzu
          obtain ⟨C0, C1, Z0, Z1⟩ := cell_of_two HGm.out
          obtain ⟨d0, d1, y0, y1⟩ := cell_of_two HZm.out
          skip
          by_cases he : em = 0
          · subst he
            clear HCALL
            have HLAW := Lib.hid (show r = tailS ⟨lm, fm⟩ name s from HRR.out.trans (save_5 (d := ⟨l0, f0⟩) HGOOD.out HNO.out HSOME.out HQm.out rfl))
            obtain ⟨⟨⟨lmw, fmw⟩, emw⟩, hqmw⟩ : ∃ q : Dsk × Int, q = writeD namedD ⟨lm, fm⟩ (name ++ dotNew) s := ⟨_, rfl⟩
            have HQmw := Lib.hid hqmw
            have HFmw := Lib.hid (show -9223372036854775808 ≤ fmw ∧ fmw ≤ 9223372036854775807 from step_fuse hqmw HFm.out)
            have hcall := write_any lm fm HFm.out _ xm HRm.out (name ++ dotNew) s
            rw [← hqmw, HNN.out] at hcall
            have HCALL := Lib.hid hcall
            clear hcall hqmw
            go_wp2_with fail
            (with_reducible refine (HCALL.out).mono ?_)
            rintro e umw ⟨v', rfl, hrd, hb⟩
            obtain ⟨amw, pmw, rfl⟩ := rd_form hrd
            have hbu := HBm.out.trans (hb.mono HBm.out.size)
            have hgu := blk_below HGm.out hb
            have hzu := blk_below HZm.out hb
            obtain ⟨xmw, hxmw⟩ : ∃ x, (umw.setCell ⟨w.heap.size, 0, none⟩ (.slice amw lmw.length pmw)).setCell ⟨w.heap.size, 1, none⟩ (.int .i64 fmw) = x := ⟨_, rfl⟩
            have HGmw := Lib.hid (show xmw.heap[w.heap.size]? = some (.cells #[.slice amw lmw.length pmw, .int .i64 fmw] 30 (0, 0)) by rw [← hxmw]; exact two_setCell1 (two_setCell0 hgu))
            have HZmw := Lib.hid (show xmw.heap[w.heap.size + 1]? = some (.cells #[.slice none 0 0, .int .i64 0] 30 (0, 0)) by rw [← hxmw]; exact blk_upd hzu (set2_updF _ _) (by omega))
            have HRmw := Lib.hid (show rdF xmw (.slice amw lmw.length pmw) lmw by rw [← hxmw]; exact rdF_upd hrd (set2_updF _ _) (no_str hgu))
            have HBmw := Lib.hid (show Below w.heap.size w xmw by rw [← hxmw]; exact set2_below hbu (Nat.le_refl _) _ _)
            clear C0 C1 Z0 Z1 d0 d1 y0 y1 c0 c1 z0 z1
            obtain ⟨c0, c1, z0, z1⟩ := cell_of_two hgu
            clear hrd hb hbu hgu hzu
            obtain ⟨C0, C1, Z0, Z1⟩ := cell_of_two HGmw.out
            obtain ⟨d0, d1, y0, y1⟩ := cell_of_two HZmw.out
            skip
            by_cases he : emw = 0
            · subst he
              clear HCALL
              obtain ⟨⟨⟨lms, fms⟩, ems⟩, hqms⟩ : ∃ q : Dsk × Int, q = syncD namedD ⟨lmw, fmw⟩ (name ++ dotNew) := ⟨_, rfl⟩
              have HQms := Lib.hid hqms
              have HFms := Lib.hid (show -9223372036854775808 ≤ fms ∧ fms ≤ 9223372036854775807 from step_fuse hqms HFmw.out)
              have hcall := sync_any lmw fmw HFmw.out _ xmw HRmw.out (name ++ dotNew)
              rw [← hqms, HNN.out] at hcall
              have HCALL := Lib.hid hcall
              clear hcall hqms
              go_wp2_with fail
              (with_reducible refine (HCALL.out).mono ?_)
              rintro e ums ⟨v', rfl, hrd, hb⟩
              obtain ⟨ams, pms, rfl⟩ := rd_form hrd
              have hbu := HBmw.out.trans (hb.mono HBmw.out.size)
              have hgu := blk_below HGmw.out hb
              have hzu := blk_below HZmw.out hb
              obtain ⟨xms, hxms⟩ : ∃ x, (ums.setCell ⟨w.heap.size, 0, none⟩ (.slice ams lms.length pms)).setCell ⟨w.heap.size, 1, none⟩ (.int .i64 fms) = x := ⟨_, rfl⟩
              have HGms := Lib.hid (show xms.heap[w.heap.size]? = some (.cells #[.slice ams lms.length pms, .int .i64 fms] 30 (0, 0)) by rw [← hxms]; exact two_setCell1 (two_setCell0 hgu))
              have HZms := Lib.hid (show xms.heap[w.heap.size + 1]? = some (.cells #[.slice none 0 0, .int .i64 0] 30 (0, 0)) by rw [← hxms]; exact blk_upd hzu (set2_updF _ _) (by omega))
              have HRms := Lib.hid (show rdF xms (.slice ams lms.length pms) lms by rw [← hxms]; exact rdF_upd hrd (set2_updF _ _) (no_str hgu))
              have HBms := Lib.hid (show Below w.heap.size w xms by rw [← hxms]; exact set2_below hbu (Nat.le_refl _) _ _)
              clear C0 C1 Z0 Z1 d0 d1 y0 y1 c0 c1 z0 z1
              obtain ⟨c0, c1, z0, z1⟩ := cell_of_two hgu
              clear hrd hb hbu hgu hzu
              obtain ⟨C0, C1, Z0, Z1⟩ := cell_of_two HGms.out
              obtain ⟨d0, d1, y0, y1⟩ := cell_of_two HZms.out
              skip
              by_cases he : ems = 0
              · subst he
                clear HCALL
                have hr1 := HLAW.out.trans (tail_3 HQmw.out rfl HQms.out rfl)
                obtain ⟨⟨lz, fz⟩, ez⟩ := r
                have hcall := rename_any lms fms HFms.out _ xms HRms.out (name ++ dotNew) name
                rw [show renameD namedD ⟨lms, fms⟩ (name ++ dotNew) name = (⟨lz, fz⟩, ez) from hr1.symm, HNN.out] at hcall
                have HCALL := Lib.hid hcall
                clear hcall hr1 HLAW HRR
                go_wp2_with fail
                (with_reducible refine HCALL.out.mono ?_)
                rintro e uz ⟨v', rfl, hrd, hb⟩
                obtain ⟨az, pz, rfl⟩ := rd_form hrd
                have HRZ := Lib.hid hrd
                have HBZ := Lib.hid (HBms.out.trans (hb.mono HBms.out.size))
                have HZZ := Lib.hid (blk_below HZms.out hb)
                clear C0 C1 Z0 Z1 d0 d1 y0 y1 c0 c1 z0 z1
                clear hb hrd
                obtain ⟨d0, d1, y0, y1⟩ := cell_of_two HZZ.out
                go_wp2_with fail
                have hgf := two_setCell1 (u := .int .i64 fz) (two_setCell0 (u := .slice az lz.length pz) HZZ.out)
                obtain ⟨e0, e1, _, _⟩ := cell_of_two hgf
                have hbf := set2_below HBZ.out (g := w.heap.size + 1) (Nat.le_succ _) (.slice az lz.length pz) (.int .i64 fz)
                refine bodyPost_ret (v := .tuple #[.agg #[.slice az lz.length pz, .int .i64 fz], .int .i64 ez]) ?_ rfl ⟨_, rfl, rdF_upd HRZ.out (set2_upd _ _) (no_str HZZ.out), hbf⟩
                simp [results, Try.f21, go_sem, e0, e1]
              · have hr1 := HLAW.out.trans (tail_2 HQmw.out rfl HQms.out he)
                subst hr1
                have hn1 : (ems == 0) = false := beq_eq_false_iff_ne.2 he
                have hn2 : (ems != 0) = true := by rw [bne, hn1]; rfl
                clear he
                go_wp2_with fail
                clear C0 C1 Z0 Z1 d0 d1 y0 y1 c0 c1 z0 z1
                have hgf := two_setCell1 (u := .int .i64 fms) (two_setCell0 (u := .slice ams lms.length pms) HZms.out)
                obtain ⟨e0, e1, _, _⟩ := cell_of_two hgf
                have hbf := set2_below HBms.out (g := w.heap.size + 1) (Nat.le_succ _) (.slice ams lms.length pms) (.int .i64 fms)
                refine bodyPost_ret (v := .tuple #[.agg #[.slice ams lms.length pms, .int .i64 fms], .int .i64 (ems)]) ?_ rfl ⟨_, rfl, rdF_upd HRms.out (set2_upd _ _) (no_str HZms.out), hbf⟩
                simp [results, Try.f21, go_sem, e0, e1]
            · have hr1 := HLAW.out.trans (tail_1 HQmw.out he)
              subst hr1
              have hn1 : (emw == 0) = false := beq_eq_false_iff_ne.2 he
              have hn2 : (emw != 0) = true := by rw [bne, hn1]; rfl
              clear he
              go_wp2_with fail
              clear C0 C1 Z0 Z1 d0 d1 y0 y1 c0 c1 z0 z1
              have hgf := two_setCell1 (u := .int .i64 fmw) (two_setCell0 (u := .slice amw lmw.length pmw) HZmw.out)
              obtain ⟨e0, e1, _, _⟩ := cell_of_two hgf
              have hbf := set2_below HBmw.out (g := w.heap.size + 1) (Nat.le_succ _) (.slice amw lmw.length pmw) (.int .i64 fmw)
              refine bodyPost_ret (v := .tuple #[.agg #[.slice amw lmw.length pmw, .int .i64 fmw], .int .i64 (emw)]) ?_ rfl ⟨_, rfl, rdF_upd HRmw.out (set2_upd _ _) (no_str HZmw.out), hbf⟩
              simp [results, Try.f21, go_sem, e0, e1]
          · have hr1 := HRR.out.trans (save_4 (d := ⟨l0, f0⟩) HGOOD.out HNO.out HSOME.out HQm.out he)
            subst hr1
            have hn1 : (em == 0) = false := beq_eq_false_iff_ne.2 he
            have hn2 : (em != 0) = true := by rw [bne, hn1]; rfl
            clear he
            go_wp2_with fail
            clear C0 C1 Z0 Z1 d0 d1 y0 y1 c0 c1 z0 z1
            have hgf := two_setCell1 (u := .int .i64 fm) (two_setCell0 (u := .slice am lm.length pm) HZm.out)
            obtain ⟨e0, e1, _, _⟩ := cell_of_two hgf
            have hbf := set2_below HBm.out (g := w.heap.size + 1) (Nat.le_succ _) (.slice am lm.length pm) (.int .i64 fm)
            refine bodyPost_ret (v := .tuple #[.agg #[.slice am lm.length pm, .int .i64 fm], .int .i64 (em)]) ?_ rfl ⟨_, rfl, rdF_upd HRm.out (set2_upd _ _) (no_str HZm.out), hbf⟩
            simp [results, Try.f21, go_sem, e0, e1]
  · rw [goodB_false hgood]
    have hr1 := HRR.out.trans (save_1 (d := ⟨l0, f0⟩) hgood)
    subst hr1
    have HG0 := Lib.hid (HG.out _ hb)
    have HZ0 := Lib.hid (HZ.out _ hb)
    have HR0 := Lib.hid (HRW.out.below hb)
    have HB0 := Lib.hid (HBW.out.trans (hb.mono HBW.out.size))
    obtain ⟨c0, c1, z0, z1⟩ := cell_of_two HG0.out
    obtain ⟨d0, d1, y0, y1⟩ := cell_of_two HZ0.out
    clear hgood hb
    go_wp2_with fail
    have hgf := two_setCell1 (u := .int .i64 f0) (two_setCell0 (u := .slice a0 l0.length p0) HZ0.out)
    obtain ⟨e0, e1, _, _⟩ := cell_of_two hgf
    have hbf := set2_below HB0.out (g := w.heap.size + 1) (Nat.le_succ _) (.slice a0 l0.length p0) (.int .i64 f0)
    refine bodyPost_ret (v := .tuple #[.agg #[.slice a0 l0.length p0, .int .i64 f0], .int .i64 (3)]) ?_ rfl ⟨_, rfl, rdF_upd HR0.out (set2_upd _ _) (no_str HZ0.out), hbf⟩
    simp [results, Try.f21, go_sem, e0, e1]
end Go.Proofs.Ytnggcldpojebkaa
