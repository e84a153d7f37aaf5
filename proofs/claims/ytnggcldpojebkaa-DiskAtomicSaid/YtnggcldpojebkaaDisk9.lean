/- Package disk's Read and Crash. -/
import Derived.Test.YtnggcldpojebkaaDisk8
import Derived.BigRegion
namespace Go.Proofs.Ytnggcldpojebkaa
open Go.RowKit
set_option linter.unusedVariables false
set_option linter.unusedSimpArgs false

theorem readD_1 {d : Dsk} {n : ByteArray} (h : ¬ GoodL namedD d.files) : readD namedD d n = (nilB, 3) := by unfold readD; rw [if_pos h]
theorem readD_2 {d : Dsk} {n : ByteArray} (h : GoodL namedD d.files) (h2 : fget n d.files = none) : readD namedD d n = (nilB, 7) := by unfold readD; rw [if_neg (fun k => k h), h2]
theorem readD_3 {d : Dsk} {n : ByteArray} {f : Fil} (h : GoodL namedD d.files) (h2 : fget n d.files = some f) : readD namedD d n = (f.safe ++ f.tail, 0) := by unfold readD; rw [if_neg (fun k => k h), h2]
set_option maxRecDepth 100000 in
set_option maxHeartbeats 3200000 in
theorem read_any (l : List Fil) (fuse : Int) (v : Value) (w : World) (hr : rdF w v l) (name : ByteArray) :
    Calls Try.prog 19 #[.agg #[v, .int .i64 fuse], .string name] w fun e w' => e = .returned (.tuple #[.string (readD namedD ⟨l, fuse⟩ name).1, .int .i64 (readD namedD ⟨l, fuse⟩ name).2]) ∧ Below w.heap.size w w' := by
  obtain ⟨r, hr0⟩ : ∃ r, r = readD namedD ⟨l, fuse⟩ name := ⟨_, rfl⟩
  rw [← hr0]
  have HRR := Lib.hid hr0
  obtain ⟨ao, cp, rfl⟩ := rd_form hr
  obtain ⟨W, hW⟩ : ∃ W, w.alloc (.cells #[.slice ao l.length cp, .int .i64 fuse] 30) = W := ⟨_, rfl⟩
  have hbW : Below w.heap.size w W := by rw [← hW]; exact (Below.refl _ _).alloc (Nat.le_refl _) _
  have g0 : W.heap[w.heap.size]? = some (.cells #[.slice ao l.length cp, .int .i64 fuse] 30 (0, 0)) := by rw [← hW]; exact heap_alloc_new _ _
  have HG := Lib.hid (fun w' (h : Below W.heap.size W w') => blk_below g0 h)
  have HRD := Lib.hid (hr.below hbW)
  have HGD := Lib.hid (goodD_any l _ fuse W HRD.out)
  have HBW := Lib.hid hbW
  have HFI := Lib.hid (fun w' (h : Below W.heap.size W w') (hg : GoodL namedD l) => find_any l name _ fuse w' hg.srt (HRD.out.below h) (by have := hg.len; omega))
  obtain ⟨c0, c1, z0, z1⟩ := cell_of_two g0
  clear hr hr0 hbW g0
  go_enter Try.func19, Try.ntmps19
  go_wp2_with fail
  (with_reducible refine HGD.out.mono ?_)
  rintro e w1 ⟨rfl, hb⟩
  have HB1 := Lib.hid hb
  clear hb HGD c0 c1 z0 z1 hW
  obtain ⟨c0, c1, z0, z1⟩ := cell_of_two (HG.out _ HB1.out)
  by_cases hgood : GoodL namedD l
  · rw [goodB_true hgood]
    have HFI2 := Lib.hid (HFI.out _ HB1.out hgood)
    obtain ⟨k, hk⟩ : ∃ k, k = fidx name l := ⟨_, rfl⟩
    rw [← hk] at HFI2
    cases hg : fget name l with
    | none =>
      rw [hg] at HFI2
      have hr1 := HRR.out.trans (readD_2 (d := ⟨l, fuse⟩) hgood hg)
      subst hr1
      clear hg hgood HFI hk
      go_wp2_with fail
      (with_reducible refine HFI2.out.mono ?_)
      rintro e w2 ⟨rfl, hb2⟩
      have HB2 := Lib.hid (HB1.out.trans (hb2.mono HB1.out.size))
      clear hb2
      go_wp2_with fail
      go_ret2
      exact ⟨rfl, HBW.out.trans (HB2.out.mono HBW.out.size)⟩
    | some f =>
      rw [hg] at HFI2
      obtain ⟨h1, h2, _, _⟩ := at_some Fil.name hgood.srt hg
      rw [← show k = idxL Fil.name name l from hk] at h1 h2
      have hr1 := HRR.out.trans (readD_3 (d := ⟨l, fuse⟩) hgood hg)
      subst hr1
      have hsz := hgood.size f (List.mem_of_getElem? h2)
      have hsum : (f.safe.size : Int) + (f.tail.size : Int) ≤ 9223372036854775807 := by omega
      obtain ⟨b, off, hae, hblt, hcell⟩ := rdF_at HRD.out (by omega)
      subst hae
      have hcell := hcell k h1
      rw [List.getD, h2] at hcell
      simp only [Option.getD_some] at hcell
      have HCE := Lib.hid hcell
      have hki : (k : Int) < (l.length : Int) := by omega
      clear hg hgood HFI hk h2 hcell hsz
      go_wp2_with fail
      (with_reducible refine HFI2.out.mono ?_)
      rintro e w2 ⟨rfl, hb2⟩
      have HB2 := Lib.hid (HB1.out.trans (hb2.mono HB1.out.size))
      clear hb2 c0 c1 z0 z1
      obtain ⟨c0, c1, z0, z1⟩ := cell_of_two (HG.out _ HB2.out)
      have s1 := (HB2.out.cell (p := ⟨b, off + k * 3 + 1, none⟩) hblt).trans HCE.out.2.1
      have s2 := (HB2.out.cell (p := ⟨b, off + k * 3 + 2, none⟩) hblt).trans HCE.out.2.2
      go_wp2_with fail
      go_region
      go_wp2_with fail
      go_ret2
      exact ⟨rfl, HBW.out.trans (HB2.out.drew.mono HBW.out.size)⟩
  · rw [goodB_false hgood]
    have hr1 := HRR.out.trans (readD_1 (d := ⟨l, fuse⟩) hgood)
    subst hr1
    clear hgood HFI
    go_wp2_with fail
    go_ret2
    exact ⟨rfl, HBW.out.trans (HB1.out.mono HBW.out.size)⟩

/-! Crash. -/
theorem crash_next {α : Type} {cf : α → α} {l : List α} {k : Nat} {x : α} (h : l[k]? = some x) :
    ((l.take k).map cf ++ l.drop k).take k ++ cf x :: ((l.take k).map cf ++ l.drop k).drop (k + 1) = (l.take (k + 1)).map cf ++ l.drop (k + 1) := by
  obtain ⟨hl, hx⟩ := List.getElem?_eq_some_iff.1 h
  have e1 : ((l.take k).map cf).length = k := by simp; omega
  have e2 : l.drop k = x :: l.drop (k + 1) := by rw [← hx]; exact List.drop_eq_getElem_cons hl
  have e3 : l.take (k + 1) = l.take k ++ [x] := by rw [List.take_add_one, h]; rfl
  rw [e2, e3, List.map_append, List.map_singleton]
  have e4 : ((l.take k).map cf ++ x :: l.drop (k + 1)).take k = (l.take k).map cf := by
    conv => lhs; arg 1; rw [← e1]
    exact List.take_left
  have e5 : ((l.take k).map cf ++ x :: l.drop (k + 1)).drop (k + 1) = l.drop (k + 1) := by
    rw [show k + 1 = ((l.take k).map cf).length + 1 by omega, List.drop_append]
    simp
  rw [e4, e5, List.append_assoc]
  rfl
theorem crashD_1 {d : Dsk} {k : Int} (h : ¬ GoodL namedD d.files ∨ k < 0) : crashD namedD d k = (d, 3) := by unfold crashD; rw [if_pos h]
theorem crashD_2 {d : Dsk} {k : Int} (h : GoodL namedD d.files) (h2 : ¬ k < 0) : crashD namedD d k = (⟨d.files.map (crashFil k.toNat), -1⟩, 0) := by unfold crashD; rw [if_neg (fun h' => h'.elim (fun j => j h) h2)]
set_option maxRecDepth 100000 in
set_option maxHeartbeats 3200000 in
theorem crash_any (l : List Fil) (fuse : Int) (v : Value) (w : World) (hr : rdF w v l) (keep : Int) (hkr : -9223372036854775808 ≤ keep ∧ keep ≤ 9223372036854775807) :
    Calls Try.prog 18 #[.agg #[v, .int .i64 fuse], .int .i64 keep] w (RetD w (crashD namedD ⟨l, fuse⟩ keep)) := by
  obtain ⟨r, hr0⟩ : ∃ r, r = crashD namedD ⟨l, fuse⟩ keep := ⟨_, rfl⟩
  rw [← hr0]
  have HRR := Lib.hid hr0
  obtain ⟨ao, cp, hv⟩ := rd_form hr
  subst hv
  have HR := Lib.hid hr
  obtain ⟨W, hW⟩ : ∃ W, (w.alloc (.cells #[.slice ao l.length cp, .int .i64 fuse] 30)).alloc (.cells #[.slice none 0 0, .int .i64 0] 30) = W := ⟨_, rfl⟩
  have hbW : Below w.heap.size w W := by rw [← hW]; exact ((Below.refl _ _).alloc (Nat.le_refl _) _).alloc (by simp) _
  have g0 : W.heap[w.heap.size]? = some (.cells #[.slice ao l.length cp, .int .i64 fuse] 30 (0, 0)) := by rw [← hW]; exact heap_old (heap_alloc_new _ _)
  have g1 : W.heap[w.heap.size + 1]? = some (.cells #[.slice none 0 0, .int .i64 0] 30 (0, 0)) := by rw [← hW]; exact heap_new (by simp)
  have HBW := Lib.hid hbW
  have HSZ := Lib.hid (show w.heap.size + 2 ≤ W.heap.size by rw [← hW]; simp)
  have HG0 := Lib.hid (fun w' (h : Below W.heap.size W w') => blk_below g0 h)
  have HG1 := Lib.hid (fun w' (h : Below W.heap.size W w') => blk_below g1 h)
  have HGD := Lib.hid (goodD_any l _ fuse W (hr.below hbW))
  obtain ⟨c0, c1, z0, z1⟩ := cell_of_two g0
  clear hr hr0 hbW g0 g1
  go_enter Try.func18, Try.ntmps18
  go_wp2_with fail
  (with_reducible refine HGD.out.mono ?_)
  rintro e w1 ⟨rfl, hb⟩
  have HB1 := Lib.hid hb
  clear hb HGD c0 c1 z0 z1 hW
  obtain ⟨c0, c1, z0, z1⟩ := cell_of_two (HG0.out _ HB1.out)
  obtain ⟨d0, d1, y0, y1⟩ := cell_of_two (HG1.out _ HB1.out)
  by_cases hgood : GoodL namedD l
  · rw [goodB_true hgood]
    by_cases hneg : keep < 0
    · have hd : decide (keep < 0) = true := decide_eq_true hneg
      have hr1 := HRR.out.trans (crashD_1 (d := ⟨l, fuse⟩) (.inr hneg))
      subst hr1
      clear hgood hneg
      go_wp2_with fail
      have hT := two_setCell1 (u := .int .i64 (fuse)) (two_setCell0 (u := .slice ao l.length cp) (HG1.out _ HB1.out))
      obtain ⟨e0, e1, _, _⟩ := cell_of_two hT
      refine bodyPost_ret (v := .tuple #[.agg #[.slice ao l.length cp, .int .i64 (fuse)], .int .i64 (3)]) ?_ rfl ⟨.slice ao l.length cp, rfl, HR.out.below (set2_below (HBW.out.trans (HB1.out.mono HBW.out.size)) (Nat.le_succ _) _ _), set2_below (HBW.out.trans (HB1.out.mono HBW.out.size)) (Nat.le_succ _) _ _⟩
      simp [results, Try.f18, go_sem, e0, e1]
    · have hd : decide (keep < 0) = false := decide_eq_false hneg
      have HGOOD := Lib.hid hgood
      have hr1 := HRR.out.trans (crashD_2 (d := ⟨l, fuse⟩) hgood hneg)
      subst hr1
      have HL48 := Lib.hid (show l.length * 48 ≤ 140737488355328 by have := hgood.len; omega)
      have hk0 : 0 ≤ keep := by omega
      have HCLO := Lib.hid (clone_any l _ w1 (HR.out.below (HBW.out.trans (HB1.out.mono HBW.out.size))) HL48.out)
      clear hgood hneg
      go_wp2_with fail
      (with_reducible refine HCLO.out.mono ?_)
      rintro e w2 ⟨cv, rfl, hown, hb2⟩
      have HB2 := Lib.hid (HB1.out.trans (hb2.mono HB1.out.size))
      obtain ⟨ao2, cp2, rfl⟩ := rd_form (rdRow_of_owns hown)
      have hge : W.heap.size ≤ w2.heap.size := HB2.out.size
      obtain ⟨w3, hw3⟩ : ∃ w3, w2.alloc (.cells #[.slice ao2 l.length cp2, .int .i64 (-1)] 30) = w3 := ⟨_, rfl⟩
      have hG3 : w3.heap[w2.heap.size]? = some (.cells #[.slice ao2 l.length cp2, .int .i64 (-1)] 30 (0, 0)) := by rw [← hw3]; exact heap_alloc_new _ _
      have HO3 := Lib.hid (show w3.ownsRow W.heap.size 60 3 (.slice ao2 l.length cp2) l.length (fvs l) by rw [← hw3]; exact (owns_base hown HB1.out.size).alloc _)
      have HB3 := Lib.hid (show Below W.heap.size W w3 by rw [← hw3]; exact HB2.out.alloc HB2.out.size _)
      have HG3 := Lib.hid hG3
      have HGE := Lib.hid hge
      clear hown hb2 c0 c1 z0 z1 d0 d1 y0 y1 hge
      obtain ⟨c0, c1, z0, z1⟩ := cell_of_two hG3
      clear hG3
      go_wp2_with fail
      clear hw3
      clear c0 c1 z0 z1
      have hl4 := HGOOD.out.len
      go_loopw [24] (fun s24 wr => ∃ k : Nat, k ≤ l.length ∧ s24 = .int .i64 (k : Int) ∧ Hid (wr.ownsRow W.heap.size 60 3 (.slice ao2 l.length cp2) l.length (fvs ((l.take k).map (crashFil keep.toNat) ++ l.drop k))) ∧ Hid (wr.heap[w2.heap.size]? = some (.cells #[.slice ao2 l.length cp2, .int .i64 (-1)] 30 (0, 0))) ∧ Hid (Below W.heap.size W wr)) (fun s24 _ => l.length - (intOf s24).toNat)
      case atStart => exact ⟨0, Nat.zero_le _, rfl, HO3, HG3, HB3⟩
      case round =>
        clear HO3 HG3 HB3
        obtain ⟨k, hk, rfl, HO3, HG3, HB3⟩ := hrel
        obtain ⟨c0, c1, z0, z1⟩ := cell_of_two HG3.out
        by_cases hlt : k < l.length
        · have hki : (k : Int) < (l.length : Int) := by omega
          have hkb : decide ((k : Int) < (l.length : Int)) = true := decide_eq_true hki
          obtain ⟨M, hM⟩ : ∃ M, M = (l.take k).map (crashFil keep.toNat) ++ l.drop k := ⟨_, rfl⟩
          obtain ⟨x, hx⟩ : ∃ x, x = l.getD k zeroFil := ⟨_, rfl⟩
          have hxl : l[k]? = some x := by rw [hx, List.getD, List.getElem?_eq_getElem hlt]; rfl
          have hMl : M.length = l.length := by rw [hM]; simp; omega
          have hMx : M[k]? = some x := by rw [hM, List.getElem?_append_right (by simp [Nat.min_eq_left hk]), List.getElem?_drop]; simp [Nat.min_eq_left hk, hxl]
          have hO4 : wr.ownsRow W.heap.size 60 3 (.slice ao2 M.length cp2) M.length (fvs M) := by rw [hMl, hM]; exact HO3.out
          have hgf := hO4
          obtain ⟨g, cp', hv, hcp⟩ := own_form hO4 (by omega)
          simp only [Value.slice.injEq, true_and] at hv
          obtain ⟨rfl, rfl⟩ := hv
          obtain ⟨s0, s1, s2, sf⟩ := own_cells hO4 hMx
          have sf1 := sf (k * 3 + 1)
          have sf2 := sf (k * 3 + 2)
          have hxs := HGOOD.out.size x (List.mem_of_getElem? hxl)
          obtain ⟨m, hm⟩ : ∃ m, m = min keep.toNat x.tail.size := ⟨_, rfl⟩
          have hmin : min keep (x.tail.size : Int) = (m : Int) := by omega
          have hml : (m : Int) ≤ (x.tail.size : Int) := by omega
          have hm0 : (0 : Int) ≤ (m : Int) := by omega
          have hsum : (x.safe.size : Int) + ((x.tail.extract 0 m).size : Int) ≤ 9223372036854775807 := by rw [ByteArray.size_extract]; omega
          have HXL := Lib.hid hxl
          have HMX := Lib.hid hMx
          have HML := Lib.hid hMl
          have HMM := Lib.hid hM
          have HO4 := Lib.hid hO4
          have HMIN := Lib.hid hm
          clear sf hgf hxs hx hxl hMx hMl hM hO4 hm HO3
          go_wp2_with fail
          go_region
          have HUP := Lib.hid (((Upd.refl (fun i => i = g) wr).setCell (a := ⟨g, k * 3 + 1, none⟩) (.inl rfl) (.string (x.safe ++ x.tail.extract 0 m))).setCell (a := ⟨g, k * 3 + 2, none⟩) (.inl rfl) (.string ⟨#[]⟩))
          have hgB : W.heap.size ≤ g := (HO4.out.lt g rfl).1
          have HGN := Lib.hid (show w2.heap.size ≠ g from fun e => owns_ne (e := 60) (t := 30) HO4.out HG3.out (by decide) (by rw [e]; rfl))
          have h := own_set (own_set HO4.out (k * 3 + 1) (.string (x.safe ++ x.tail.extract 0 m))) (k * 3 + 2) (.string ⟨#[]⟩)
          rw [show (⟨#[]⟩ : ByteArray) = nilB from rfl, fvs_put2 HMX.out ⟨x.name, x.safe ++ x.tail.extract 0 m, nilB⟩ rfl, show (⟨x.name, x.safe ++ x.tail.extract 0 m, nilB⟩ : Fil) = crashFil keep.toNat x by rw [HMIN.out]; rfl, HMM.out, crash_next HXL.out, ← HMM.out, HML.out] at h
          have HOF := Lib.hid h
          have HGF := Lib.hid (blk_upd (S := fun i => i = g) HG3.out HUP.out HGN.out)
          have HBF := Lib.hid (HB3.out.trans (HUP.out.below HB3.out.size (fun i hi => by rw [hi]; exact hgB)))
          clear h c0 c1 z0 z1 s0 s1 s2 sf1 sf2 hmin hml hm0 hsum
          go_wp2_with fail
          go_roundw
          case rel => exact ⟨k + 1, by omega, by first | rfl | go_num, HOF, HGF, Lib.hid HBF.out.drew⟩
          case measure => simp [intOf]; omega
        · obtain rfl : k = l.length := by omega
          have hkb : decide ((l.length : Int) < (l.length : Int)) = false := by simp
          obtain ⟨d0, d1, y0, y1⟩ := cell_of_two (HG1.out _ HB3.out)
          have hlist : (l.take l.length).map (crashFil keep.toNat) ++ l.drop l.length = l.map (crashFil keep.toNat) := by rw [List.take_length, List.drop_length, List.append_nil]
          have HOF := Lib.hid (show wr.ownsRow W.heap.size 60 3 (.slice ao2 l.length cp2) (l.map (crashFil keep.toNat)).length (fvs (l.map (crashFil keep.toNat))) by rw [List.length_map, ← hlist]; exact HO3.out)
          clear hlist HO3
          go_wp2_with fail
          have hgf := two_setCell1 (u := .int .i64 (-1)) (two_setCell0 (u := .slice ao2 l.length cp2) (HG1.out _ HB3.out))
          obtain ⟨e0, e1, _, _⟩ := cell_of_two hgf
          have hbf := set2_below (HBW.out.trans (HB3.out.mono HBW.out.size)) (g := w.heap.size + 1) (Nat.le_succ _) (.slice ao2 l.length cp2) (.int .i64 (-1))
          refine bodyPost_ret (v := .tuple #[.agg #[.slice ao2 l.length cp2, .int .i64 (-1)], .int .i64 0]) ?_ rfl ⟨_, rfl, rdF_owns (owns_setCell (owns_setCell HOF.out (owns_ne (e := 60) (t := 30) HOF.out (HG1.out _ HB3.out) (by decide)) _) (owns_ne (e := 60) (t := 30) HOF.out (HG1.out _ HB3.out) (by decide)) _), hbf⟩
          simp [results, Try.f18, go_sem, e0, e1]
  · rw [goodB_false hgood]
    have hr1 := HRR.out.trans (crashD_1 (d := ⟨l, fuse⟩) (.inl hgood))
    subst hr1
    clear hgood
    go_wp2_with fail
    have hT := two_setCell1 (u := .int .i64 (fuse)) (two_setCell0 (u := .slice ao l.length cp) (HG1.out _ HB1.out))
    obtain ⟨e0, e1, _, _⟩ := cell_of_two hT
    refine bodyPost_ret (v := .tuple #[.agg #[.slice ao l.length cp, .int .i64 (fuse)], .int .i64 (3)]) ?_ rfl ⟨.slice ao l.length cp, rfl, HR.out.below (set2_below (HBW.out.trans (HB1.out.mono HBW.out.size)) (Nat.le_succ _) _ _), set2_below (HBW.out.trans (HB1.out.mono HBW.out.size)) (Nat.le_succ _) _ _⟩
    simp [results, Try.f18, go_sem, e0, e1]
end Go.Proofs.Ytnggcldpojebkaa
