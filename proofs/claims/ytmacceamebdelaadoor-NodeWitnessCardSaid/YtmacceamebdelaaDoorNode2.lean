/- The walk of package node's Mark. -/
import Derived.Test.YtmacceamebdelaaDoorNode1
namespace Go.Proofs.YtmacceamebdelaaDoor
open Go.RowKit
set_option linter.unusedVariables false
set_option linter.unusedSimpArgs false

theorem NewF.updT {B b : Nat} {w w' : World} {v v1 : Value} {l l1 : List Fil} (h : NewF B w v v1 l l1) (hu : Upd (· = b) w w') {cs : Array Value} {t : TypeId} {fr : Nat × Nat} (hb : w.heap[b]? = some (.cells cs t fr)) (hne : 92 ≠ t) : NewF B w' v v1 l l1 := by
  rcases h with h | h
  · exact .inl h
  · have hn := owns_ne (e := 92) (t := t) h hb hne
    exact .inr (owns_upd h hu (fun k hk e => hn (e ▸ hk)))
theorem NewF.rd {w w' : World} {v v' : Value} {l l' : List Fil} (h : NewF w.heap.size w' v v' l l') (hr : rdF w v l) (hb : Below w.heap.size w w') : rdF w' v' l' := by
  rcases h with ⟨rfl, rfl⟩ | h
  · exact hr.below hb
  · exact rdF_owns h
def RetW (w : World) (v : Value) (l : List Fil) (r : Wit × Hed × Int) (e : Ending) (w' : World) : Prop :=
  ∃ v', e = .returned (.tuple #[.agg #[.int .i64 r.1.who, .string r.1.key, v', .int .i64 r.1.disk.fuse, .int .i64 r.1.seen.1, .string r.1.seen.2], .agg #[.int .i64 r.2.1.1, .string r.2.1.2], .int .i64 r.2.2]) ∧ Below w.heap.size w w' ∧ NewF w.heap.size w' v v' l r.1.disk.files
set_option maxRecDepth 100000 in
set_option maxHeartbeats 3200000 in
theorem markN_any (x : Wit) (h : Hed) (ps : List ByteArray) (v vp : Value) (w : World) (hr : rdF w v x.disk.files) (hfu : -9223372036854775808 ≤ x.disk.fuse ∧ x.disk.fuse ≤ 9223372036854775807) (hp : rdS w vp ps) (hsm : smalls ps) (hk : x.key.size ≤ 140737488355328) (hs : x.seen.2.size ≤ 140737488355328) (ht : Tab w) :
    Calls Tryd.prog 7 #[.agg #[.int .i64 x.who, .string x.key, v, .int .i64 x.disk.fuse, .int .i64 x.seen.1, .string x.seen.2], .agg #[.int .i64 h.1, .string h.2], vp] w (RetW w v x.disk.files (markW x h ps)) := by
  obtain ⟨F, hF⟩ : ∃ F, F = markW x h ps := ⟨_, rfl⟩
  rw [← hF]
  have HF := Lib.hid hF
  obtain ⟨ao, cp, rfl⟩ := rd_form hr
  obtain ⟨ap, cq, rfl⟩ := rd_form hp
  obtain ⟨W, hW⟩ : ∃ W, (((w.alloc (.cells #[.int .i64 x.who, .string x.key, .slice ao x.disk.files.length cp, .int .i64 x.disk.fuse, .int .i64 x.seen.1, .string x.seen.2] 30)).alloc (.cells #[.int .i64 h.1, .string h.2] 28)).alloc (.cells #[.int .i64 0, .string ⟨#[]⟩, .slice none 0 0, .int .i64 0, .int .i64 0, .string ⟨#[]⟩] 30)).alloc (.cells #[.int .i64 0, .string ⟨#[]⟩] 39) = W := ⟨_, rfl⟩
  have hb1 : Below w.heap.size w W := by rw [← hW]; exact ((((Below.refl _ _).alloc (Nat.le_refl _) _).alloc (by simp <;> omega) _).alloc (by simp <;> omega) _).alloc (by simp <;> omega) _
  have g0 : W.heap[w.heap.size]? = some (.cells #[.int .i64 x.who, .string x.key, .slice ao x.disk.files.length cp, .int .i64 x.disk.fuse, .int .i64 x.seen.1, .string x.seen.2] 30 (0, 0)) := by rw [← hW]; exact heap_old (heap_old (heap_old (heap_alloc_new _ _)))
  have HG0 := Lib.hid (fun wr (h : Below W.heap.size W wr) => blk_below g0 h)
  have g1 : W.heap[w.heap.size + 1]? = some (.cells #[.int .i64 h.1, .string h.2] 28 (0, 0)) := by rw [← hW]; exact heap_old (heap_old (heap_new (by simp)))
  have HG1 := Lib.hid (fun wr (h : Below W.heap.size W wr) => blk_below g1 h)
  have g2 : W.heap[w.heap.size + 2]? = some (.cells #[.int .i64 0, .string ⟨#[]⟩, .slice none 0 0, .int .i64 0, .int .i64 0, .string ⟨#[]⟩] 30 (0, 0)) := by rw [← hW]; exact heap_old (heap_new (by simp))
  have HG2 := Lib.hid (fun wr (h : Below W.heap.size W wr) => blk_below g2 h)
  have g3 : W.heap[w.heap.size + 3]? = some (.cells #[.int .i64 0, .string ⟨#[]⟩] 39 (0, 0)) := by rw [← hW]; exact heap_new (by simp)
  have HG3 := Lib.hid (fun wr (h : Below W.heap.size W wr) => blk_below g3 h)
  have HW0 := Lib.hid hb1
  have HB0 := Lib.hid (Below.refl W.heap.size W)
  have HWZ := Lib.hid (show W.heap.size = w.heap.size + 4 by rw [← hW]; simp)
  have HR := Lib.hid hr
  have HP := Lib.hid hp
  have HSM := Lib.hid hsm
  have HK := Lib.hid hk
  have HSZ := Lib.hid hs
  have HT := Lib.hid ht
  have HFU := Lib.hid hfu
  clear hr hp hsm hk hs ht hfu hF hb1 g0 g1 g2 g3
  have htx := fun wr => textHead_any h.1 h.2 wr
  have hfo := fun wr (hb : Below W.heap.size W wr) => follows_any x.seen h ps (.slice ap ps.length cq) wr HSZ.out ((HP.out.below HW0.out).below hb) HSM.out (HT.out.below (HW0.out.trans (hb.mono HW0.out.size)))
  have hmk := fun wr (hb : Below W.heap.size W wr) => markHd_any x.who x.key h.1 h.2 wr HK.out (HT.out.below (HW0.out.trans (hb.mono HW0.out.size)))
  obtain ⟨fo, hfe⟩ : ∃ fo, fo = folF x.seen h ps := ⟨_, rfl⟩
  rw [← hfe] at hfo
  obtain ⟨⟨mm, me⟩, hme⟩ : ∃ q, q = markF sealF x.who x.key h.1 h.2 := ⟨_, rfl⟩
  rw [← hme] at hmk
  have HFE := Lib.hid hfe.symm
  have HME := Lib.hid hme.symm
  have HFO := Lib.hid hfo
  have HMK := Lib.hid hmk
  clear hfe hme hfo hmk
  obtain ⟨c0, c1, c2, c3, c4, c5⟩ := six_cells (HG0.out _ HB0.out)
  obtain ⟨d0, d1, dz0, dz1⟩ := cell_of_two (HG1.out _ HB0.out)
  go_enter Tryd.func7, Tryd.ntmps7
  by_cases hg : goodH h.1 h.2 = 0
  · have HGD := Lib.hid hg
    have hhz := headB_size hg
    rw [textF_ok hg] at htx
    obtain ⟨T, hT⟩ : ∃ T, T = headB h.1 h.2 := ⟨_, rfl⟩
    rw [← hT] at htx hhz
    have HHT := Lib.hid hT
    clear hT hg
    go_wp2_with fail
    (with_reducible refine (htx _).mono ?_)
    rintro e w1 ⟨rfl, hb⟩
    have HB1 := Lib.hid (HB0.out.trans (hb.mono HB0.out.size))
    clear hb
    clear htx hW
    clear c0 c1 c2 c3 c4 c5
    clear d0 d1 dz0 dz1
    obtain ⟨c0, c1, c2, c3, c4, c5⟩ := six_cells (HG0.out _ HB1.out)
    obtain ⟨d0, d1, dz0, dz1⟩ := cell_of_two (HG1.out _ HB1.out)
    go_wp2_with fail
    (with_reducible refine (HFO.out _ HB1.out).mono ?_)
    rintro e w2 ⟨rfl, hb⟩
    have HB2 := Lib.hid (HB1.out.trans (hb.mono HB1.out.size))
    clear hb
    clear c0 c1 c2 c3 c4 c5
    clear d0 d1 dz0 dz1
    obtain ⟨c0, c1, c2, c3, c4, c5⟩ := six_cells (HG0.out _ HB2.out)
    obtain ⟨d0, d1, dz0, dz1⟩ := cell_of_two (HG1.out _ HB2.out)
    by_cases h2 : fo = 0
    · subst h2
      go_wp2_with fail
      (with_reducible refine (HMK.out _ HB2.out).mono ?_)
      rintro e w3 ⟨rfl, hb⟩
      have HB3 := Lib.hid (HB2.out.trans (hb.mono HB2.out.size))
      clear hb
      clear c0 c1 c2 c3 c4 c5
      clear d0 d1 dz0 dz1
      obtain ⟨c0, c1, c2, c3, c4, c5⟩ := six_cells (HG0.out _ HB3.out)
      obtain ⟨d0, d1, dz0, dz1⟩ := cell_of_two (HG1.out _ HB3.out)
      by_cases h3 : me = 0
      · subst h3
        have HSU := Lib.hid (fun wr (hb : Below W.heap.size W wr) => sum_any T wr (HT.out.below (HW0.out.trans (hb.mono HW0.out.size))))
        obtain ⟨S, hS⟩ : ∃ S, S = sumF T := ⟨_, rfl⟩
        rw [← hS] at HSU
        have hsz : S.size = 32 := by rw [hS]; exact sumF_size _
        have HSV := Lib.hid (fun wr (hb : Below W.heap.size W wr) => save_anyN x.disk.files x.disk.fuse HFU.out (.slice ao x.disk.files.length cp) wr ((HR.out.below HW0.out).below hb) seenN (T ++ S))
        obtain ⟨⟨⟨fl, fz⟩, es⟩, hsv⟩ : ∃ q, q = saveD namedD x.disk seenN (T ++ S) := ⟨_, rfl⟩
        rw [show saveD namedD ⟨x.disk.files, x.disk.fuse⟩ seenN (T ++ S) = _ from hsv.symm] at HSV
        have HSE := Lib.hid (show saveD namedD x.disk seenN (sumB (headB h.1 h.2)) = (⟨fl, fz⟩, es) by rw [← HHT.out, sumB, ← hS, ← hsv])
        unfold seenN at HSV
        clear hsv hS
        go_wp2_with (refine wpList_store_blk (by rfl) 39 (.tmp 12) (.tmp 40) rfl w3.heap.size #[.int .i64 mm.1, .string mm.2] rfl rfl (old := _) (heap_alloc_new _ _) (by kernel_rfl) rfl (by simp [Value.oneCell']) ?_; intro w4 gm um; have hb4 := below_upd ((Below.refl w3.heap.size w3).alloc (Nat.le_refl _) _) um (Nat.le_refl _) (by simp); have HB4 := Lib.hid (HB3.out.trans (hb4.mono HB3.out.size)); clear um hb4 c0 c1 c2 c3 c4 c5 d0 d1 dz0 dz1; obtain ⟨c0, c1, c2, c3, c4, c5⟩ := six_cells (HG0.out _ HB4.out); obtain ⟨d0, d1, dz0, dz1⟩ := cell_of_two (HG1.out _ HB4.out))
        have HGM := Lib.hid (fun wr (h : Below w4.heap.size w4 wr) => blk_below gm h)
        clear gm
        have HB5 := Lib.hid (below_drew HB4.out)
        have hdr := (Below.refl w4.heap.size w4).drew
        have HM5 := Lib.hid hdr
        clear hdr
        clear c0 c1 c2 c3 c4 c5
        clear d0 d1 dz0 dz1
        obtain ⟨c0, c1, c2, c3, c4, c5⟩ := six_cells (HG0.out _ HB5.out)
        obtain ⟨d0, d1, dz0, dz1⟩ := cell_of_two (HG1.out _ HB5.out)
        obtain ⟨w5, hw5⟩ : ∃ X, w4.drew = X := ⟨_, rfl⟩
        rw [hw5] at HB5 HM5
        rw [hw5] at c0 c1 c2 c3 c4 c5 d0 d1 dz0 dz1
        refine Sole.wp_region_order [(0, false), (1, false), (2, false), (3, false), (4, true), (5, false), (6, true), (7, false), (8, false), (9, false), (10, false), (11, true), (12, false)] (fun w' => w'.cell? ⟨w.heap.size, 2, none⟩ = some (.slice ao x.disk.files.length cp) ∧ w'.cell? ⟨w.heap.size, 3, none⟩ = some (.int .i64 x.disk.fuse)) (by kernel_rfl) (by kernel_rfl) rfl (by kernel_rfl) (by intro _ _ d _ _ h; cases d <;> exact h) (hw5 ▸ ⟨c2, c3⟩) ?_; simp only [List.map_cons, List.map_nil, List.getElem?_toArray, List.getElem?_cons_zero, List.getElem?_cons_succ, Option.getD_some]
        rw [hw5]
        clear hw5
        repeat (first | (refine Sole.ro_q (by rfl) (v := ?_) ?_ ?_; rotate_left; (focus (intro w' hSw; (try dsimp only at hSw); go_simp; try with_reducible rfl)); simp only [Act.put, List.setIfInBounds_toArray, List.set_cons_zero, List.set_cons_succ]) | (refine Sole.ro_skip (by rfl) ?_; simp only [Act.put, List.setIfInBounds_toArray, List.set_cons_zero, List.set_cons_succ]))
        (refine Sole.ro_loud (by rfl) (fun K hK => ?_); go_simp)
        (with_reducible refine (HSU.out _ HB5.out).mono ?_)
        rintro e w6 ⟨rfl, hb⟩
        have HB6 := Lib.hid (HB5.out.trans (hb.mono HB5.out.size))
        have HM6 := Lib.hid (HM5.out.trans (hb.mono HM5.out.size))
        clear hb
        clear c0 c1 c2 c3 c4 c5
        clear d0 d1 dz0 dz1
        obtain ⟨c0, c1, c2, c3, c4, c5⟩ := six_cells (HG0.out _ HB6.out)
        obtain ⟨d0, d1, dz0, dz1⟩ := cell_of_two (HG1.out _ HB6.out)
        (refine hK.out _ _ (fun w' => w'.cell? ⟨w.heap.size, 2, none⟩ = some (.slice ao x.disk.files.length cp) ∧ w'.cell? ⟨w.heap.size, 3, none⟩ = some (.int .i64 x.disk.fuse)) (.inl fun _ h => h) (⟨c2, c3⟩) ?_; clear hK K; try simp only [Act.put, List.setIfInBounds_toArray, List.set_cons_zero, List.set_cons_succ])
        refine Sole.ro_q (by rfl) (v := .string (T ++ S)) (fun w' hSw => by go_simp <;> omega) ?_; simp only [Act.put, List.setIfInBounds_toArray, List.set_cons_zero, List.set_cons_succ]
        (refine Sole.ro_loud (by rfl) (fun K hK => ?_); go_simp)
        (with_reducible refine (HSV.out _ HB6.out).mono ?_)
        rintro e w7 ⟨v2, rfl, hrd, hb, hnw⟩
        have HB7 := Lib.hid (HB6.out.trans (hb.mono HB6.out.size))
        have HM7 := Lib.hid (HM6.out.trans (hb.mono HM6.out.size))
        obtain ⟨a2, p2, rfl⟩ := rd_form hrd
        have HN7 := Lib.hid (hnw.mono (HW0.out.trans (HB6.out.mono HW0.out.size)).size)
        clear hrd hnw
        clear hb
        clear c0 c1 c2 c3 c4 c5
        clear d0 d1 dz0 dz1
        obtain ⟨c0, c1, c2, c3, c4, c5⟩ := six_cells (HG0.out _ HB7.out)
        obtain ⟨d0, d1, dz0, dz1⟩ := cell_of_two (HG1.out _ HB7.out)
        (refine hK.out _ _ (fun w' => w'.cell? ⟨w.heap.size, 2, none⟩ = some (.slice ao x.disk.files.length cp) ∧ w'.cell? ⟨w.heap.size, 3, none⟩ = some (.int .i64 x.disk.fuse)) (.inl fun _ h => h) (⟨c2, c3⟩) ?_; clear hK K; try simp only [Act.put, List.setIfInBounds_toArray, List.set_cons_zero, List.set_cons_succ])
        repeat (first | (refine Sole.ro_q (by rfl) (v := ?_) ?_ ?_; rotate_left; (focus (intro w' hSw; (try dsimp only at hSw); go_simp; try with_reducible rfl)); simp only [Act.put, List.setIfInBounds_toArray, List.set_cons_zero, List.set_cons_succ]) | (refine Sole.ro_skip (by rfl) ?_; simp only [Act.put, List.setIfInBounds_toArray, List.set_cons_zero, List.set_cons_succ]))
        (refine Sole.ro_loud (by rfl) (fun K hK => ?_))
        refine wp_store_seg 26 (.tmp 57) (.tmp 55) rfl w.heap.size 2 #[.slice a2 fl.length p2, .int .i64 fz] rfl rfl (old := _) (HG0.out _ HB7.out) (by kernel_rfl) (by simp) (by simp [Value.oneCell']) ?_
        intro w8 g8 u8
        have g8 : w8.heap[w.heap.size]? = some (.cells #[.int .i64 x.who, .string x.key, .slice a2 fl.length p2, .int .i64 fz, .int .i64 x.seen.1, .string x.seen.2] 30 (0, 0)) := g8
        have HN8 := Lib.hid (HN7.out.updT u8 (HG0.out _ HB7.out) (by decide))
        have HG18 := Lib.hid (blk_upd (HG1.out _ HB7.out) u8 (by omega))
        have HG28 := Lib.hid (blk_upd (HG2.out _ HB7.out) u8 (by omega))
        have HG38 := Lib.hid (blk_upd (HG3.out _ HB7.out) u8 (by omega))
        have hs4 := HB4.out.size
        have hsW : W.heap.size = w.heap.size + 4 := HWZ.out
        have HM8 := Lib.hid (blk_upd (HGM.out _ HM7.out) u8 (by have := HB3.out.size; omega))
        have HB8 := Lib.hid (below_upd (HW0.out.trans (HB7.out.mono HW0.out.size)) u8 (Nat.le_refl _) (HW0.out.trans (HB7.out.mono HW0.out.size)).size)
        clear c0 c1 c2 c3 c4 c5
        clear d0 d1 dz0 dz1
        obtain ⟨c0, c1, c2, c3, c4, c5⟩ := six_cells (g8)
        obtain ⟨d0, d1, dz0, dz1⟩ := cell_of_two (HG18.out)
        clear u8 hs4 hsW
        (refine hK.out _ _ (fun _ => True) (.inr (by kernel_rfl)) (trivial) ?_; clear hK K; try simp only [Act.put, List.setIfInBounds_toArray, List.set_cons_zero, List.set_cons_succ])
        repeat (first | (refine Sole.ro_q (by rfl) (v := ?_) ?_ ?_; rotate_left; (focus (intro w' hSw; (try dsimp only at hSw); go_simp; try with_reducible rfl)); simp only [Act.put, List.setIfInBounds_toArray, List.set_cons_zero, List.set_cons_succ]) | (refine Sole.ro_skip (by rfl) ?_; simp only [Act.put, List.setIfInBounds_toArray, List.set_cons_zero, List.set_cons_succ]))
        refine Sole.ro_nil ?_
        by_cases h4 : es = 0
        · subst h4
          have hF := HF.out.trans (markW_5 HGD.out HFE.out HME.out HSE.out)
          subst hF
          go_wp2_with (refine wpList_store_seg (by rfl) 28 (.tmp 64) (.tmp 63) rfl w.heap.size 4 #[.int .i64 h.1, .string h.2] rfl rfl (old := _) g8 (by kernel_rfl) (by simp) (by simp [Value.oneCell']) ?_; intro w9 g9 u9; have g9 : w9.heap[w.heap.size]? = some (.cells #[.int .i64 x.who, .string x.key, .slice a2 fl.length p2, .int .i64 fz, .int .i64 h.1, .string h.2] 30 (0, 0)) := g9; have HN9 := Lib.hid (HN8.out.updT u9 g8 (by decide)); have HG29 := Lib.hid (blk_upd HG28.out u9 (by omega)); have HG39 := Lib.hid (blk_upd HG38.out u9 (by omega)); have HB9 := Lib.hid (below_upd HB8.out u9 (Nat.le_refl _) HB8.out.size); have HM9 := Lib.hid (blk_upd HM8.out u9 (by have := HB3.out.size; have := HWZ.out; omega)); clear c0 c1 c2 c3 c4 c5 d0 d1 dz0 dz1 g8 u9; obtain ⟨c0, c1, c2, c3, c4, c5⟩ := six_cells (g9); obtain ⟨d0, d1, dz0, dz1⟩ := cell_of_two (HM9.out))
          obtain ⟨wA, hwA⟩ : ∃ X, w9.drew = X := ⟨_, rfl⟩
          have hdr : Below w9.heap.size w9 wA := by rw [← hwA]; exact (Below.refl _ _).drew
          have gA := blk_below g9 hdr
          have mA := blk_below HM9.out hdr
          have HG2A := Lib.hid (blk_below HG29.out hdr)
          have HG3A := Lib.hid (blk_below HG39.out hdr)
          have HBA := Lib.hid (HB9.out.trans (hdr.mono HB9.out.size))
          have HNA := Lib.hid (HN9.out.trans (.inl ⟨rfl, rfl⟩) hdr HB9.out.size)
          clear c0 c1 c2 c3 c4 c5
          clear d0 d1 dz0 dz1
          obtain ⟨c0, c1, c2, c3, c4, c5⟩ := six_cells (gA)
          obtain ⟨d0, d1, dz0, dz1⟩ := cell_of_two (mA)
          refine Sole.wp_region_order [(0, false), (1, false), (2, true), (3, true), (4, false)] (fun w' => (w'.cell? ⟨w.heap.size, 0, none⟩ = some (.int .i64 x.who) ∧ w'.cell? ⟨w.heap.size, 1, none⟩ = some (.string x.key) ∧ w'.cell? ⟨w.heap.size, 2, none⟩ = some (.slice a2 fl.length p2) ∧ w'.cell? ⟨w.heap.size, 3, none⟩ = some (.int .i64 fz) ∧ w'.cell? ⟨w.heap.size, 4, none⟩ = some (.int .i64 h.1) ∧ w'.cell? ⟨w.heap.size, 5, none⟩ = some (.string h.2)) ∧ w'.cell? ⟨w3.heap.size, 0, none⟩ = some (.int .i64 mm.1) ∧ w'.cell? ⟨w3.heap.size, 1, none⟩ = some (.string mm.2)) (by kernel_rfl) (by kernel_rfl) rfl (by kernel_rfl) (by intro _ _ d _ _ h; cases d <;> exact h) (hwA ▸ ⟨⟨c0, c1, c2, c3, c4, c5⟩, d0, d1⟩) ?_; simp only [List.map_cons, List.map_nil, List.getElem?_toArray, List.getElem?_cons_zero, List.getElem?_cons_succ, Option.getD_some]
          rw [hwA]
          clear hwA hdr
          repeat (first | (refine Sole.ro_q (by rfl) (v := ?_) ?_ ?_; rotate_left; (focus (intro w' hSw; (try dsimp only at hSw); go_simp; try with_reducible rfl)); simp only [Act.put, List.setIfInBounds_toArray, List.set_cons_zero, List.set_cons_succ]) | (refine Sole.ro_skip (by rfl) ?_; simp only [Act.put, List.setIfInBounds_toArray, List.set_cons_zero, List.set_cons_succ]))
          (refine Sole.ro_loud (by rfl) (fun K hK => ?_))
          refine wp_store_blkT 30 (.tmp 6) (.tmp 65) rfl (w.heap.size + 2) #[.int .i64 x.who, .string x.key, .slice a2 fl.length p2, .int .i64 fz, .int .i64 h.1, .string h.2] rfl rfl (old := _) HG2A.out (by kernel_rfl) rfl (by simp [Value.oneCell']) ?_
          intro wz gz uz
          have hsW : W.heap.size = w.heap.size + 4 := HWZ.out
          have hs3 := HB3.out.size
          clear c0 c1 c2 c3 c4 c5
          clear d0 d1 dz0 dz1
          obtain ⟨c0, c1, c2, c3, c4, c5⟩ := six_cells (blk_upd gA uz (by omega))
          obtain ⟨d0, d1, dz0, dz1⟩ := cell_of_two (blk_upd mA uz (by omega))
          (refine hK.out _ _ (fun w' => (w'.cell? ⟨w.heap.size, 0, none⟩ = some (.int .i64 x.who) ∧ w'.cell? ⟨w.heap.size, 1, none⟩ = some (.string x.key) ∧ w'.cell? ⟨w.heap.size, 2, none⟩ = some (.slice a2 fl.length p2) ∧ w'.cell? ⟨w.heap.size, 3, none⟩ = some (.int .i64 fz) ∧ w'.cell? ⟨w.heap.size, 4, none⟩ = some (.int .i64 h.1) ∧ w'.cell? ⟨w.heap.size, 5, none⟩ = some (.string h.2)) ∧ w'.cell? ⟨w3.heap.size, 0, none⟩ = some (.int .i64 mm.1) ∧ w'.cell? ⟨w3.heap.size, 1, none⟩ = some (.string mm.2)) (.inl fun _ h => h) (⟨⟨c0, c1, c2, c3, c4, c5⟩, d0, d1⟩) ?_; clear hK K; try simp only [Act.put, List.setIfInBounds_toArray, List.set_cons_zero, List.set_cons_succ])
          repeat (first | (refine Sole.ro_q (by rfl) (v := ?_) ?_ ?_; rotate_left; (focus (intro w' hSw; (try dsimp only at hSw); go_simp; try with_reducible rfl)); simp only [Act.put, List.setIfInBounds_toArray, List.set_cons_zero, List.set_cons_succ]) | (refine Sole.ro_skip (by rfl) ?_; simp only [Act.put, List.setIfInBounds_toArray, List.set_cons_zero, List.set_cons_succ]))
          (refine Sole.ro_loud (by rfl) (fun K hK => ?_))
          refine wp_store_blkT 39 (.tmp 7) (.tmp 66) rfl (w.heap.size + 3) #[.int .i64 mm.1, .string mm.2] rfl rfl (old := _) (blk_upd HG3A.out uz (by omega)) (by kernel_rfl) rfl (by simp [Value.oneCell']) ?_
          intro wy gy uy
          (refine hK.out _ _ (fun _ => True) (.inr (by kernel_rfl)) (trivial) ?_; clear hK K; try simp only [Act.put, List.setIfInBounds_toArray, List.set_cons_zero, List.set_cons_succ])
          repeat (first | (refine Sole.ro_q (by rfl) (v := ?_) ?_ ?_; rotate_left; (focus (intro w' hSw; (try dsimp only at hSw); go_simp; try with_reducible rfl)); simp only [Act.put, List.setIfInBounds_toArray, List.set_cons_zero, List.set_cons_succ]) | (refine Sole.ro_skip (by rfl) ?_; simp only [Act.put, List.setIfInBounds_toArray, List.set_cons_zero, List.set_cons_succ]))
          refine Sole.ro_nil ?_
          go_wp2_with fail
          have hbz := below_upd HBA.out uz (by omega) HBA.out.size
          have hby := below_upd hbz uy (by omega) hbz.size
          obtain ⟨r0, r1, r2, r3, r4, r5⟩ := six_cells (blk_upd gz uy (by omega))
          obtain ⟨s0, s1, sz0, sz1⟩ := cell_of_two (gy)
          refine bodyPost_ret (v := .tuple #[.agg #[.int .i64 x.who, .string x.key, .slice a2 fl.length p2, .int .i64 fz, .int .i64 h.1, .string h.2], .agg #[.int .i64 mm.1, .string mm.2], .int .i64 0]) ?_ rfl ⟨_, rfl, hby, (HNA.out.updT uz HG2A.out (by decide)).updT uy (blk_upd HG3A.out uz (by omega)) (by decide)⟩
          simp [results, Tryd.f7, go_sem, r0, r1, r2, r3, r4, r5, s0, s1] <;> rfl
        · have hF := HF.out.trans (markW_4 HGD.out HFE.out HME.out HSE.out h4)
          subst hF
          have n1 : (es == 0) = false := beq_eq_false_iff_ne.2 h4
          have n2 : (es != 0) = true := by rw [bne, n1]; rfl
          clear h4
          go_wp2_with (first | (refine wpList_store_blk (by rfl) 30 (.tmp 6) (.tmp 60) rfl (w.heap.size + 2) #[.int .i64 x.who, .string x.key, .slice a2 fl.length p2, .int .i64 fz, .int .i64 x.seen.1, .string x.seen.2] rfl rfl (old := _) (HG28.out) (by kernel_rfl) rfl (by simp [Value.oneCell']) ?_; intro wz gz uz) | (refine wpList_store_blk (by rfl) 39 (.tmp 7) (.tmp 61) rfl (w.heap.size + 3) #[.int .i64 0, .string ⟨#[]⟩] rfl rfl (old := _) (blk_upd (HG38.out) uz (by omega)) (by kernel_rfl) rfl (by simp [Value.oneCell']) ?_; intro wy gy uy))
          have hbz := below_upd (HB8.out) uz (by omega) (HB8.out).size
          have hby := below_upd hbz uy (by omega) hbz.size
          obtain ⟨r0, r1, r2, r3, r4, r5⟩ := six_cells (blk_upd gz uy (by omega))
          obtain ⟨s0, s1, sz0, sz1⟩ := cell_of_two (gy)
          refine bodyPost_ret (v := .tuple #[.agg #[.int .i64 x.who, .string x.key, .slice a2 fl.length p2, .int .i64 fz, .int .i64 x.seen.1, .string x.seen.2], .agg #[.int .i64 0, .string ⟨#[]⟩], .int .i64 es]) ?_ rfl ⟨_, rfl, hby, (HN8.out.updT uz HG28.out (by decide)).updT uy (blk_upd HG38.out uz (by omega)) (by decide)⟩
          simp [results, Tryd.f7, go_sem, r0, r1, r2, r3, r4, r5, s0, s1] <;> rfl
      · have hF := HF.out.trans (markW_3 HGD.out HFE.out HME.out h3)
        subst hF
        have n1 : (me == 0) = false := beq_eq_false_iff_ne.2 h3
        have n2 : (me != 0) = true := by rw [bne, n1]; rfl
        clear h3
        go_wp2_with (first | (refine wpList_store_blk (by rfl) 39 (.tmp 12) (.tmp 40) rfl w3.heap.size #[.int .i64 mm.1, .string mm.2] rfl rfl (old := _) (heap_alloc_new _ _) (by kernel_rfl) rfl (by simp [Value.oneCell']) ?_; intro w4 gm um; have hb4 := below_upd ((Below.refl w3.heap.size w3).alloc (Nat.le_refl _) _) um (Nat.le_refl _) (by simp); have HB4 := Lib.hid (HB3.out.trans (hb4.mono HB3.out.size)); clear um hb4 c0 c1 c2 c3 c4 c5 d0 d1 dz0 dz1; obtain ⟨c0, c1, c2, c3, c4, c5⟩ := six_cells (HG0.out _ HB4.out); obtain ⟨d0, d1, dz0, dz1⟩ := cell_of_two (HG1.out _ HB4.out)) | (refine wpList_store_blk (by rfl) 30 (.tmp 6) (.tmp 44) rfl (w.heap.size + 2) #[.int .i64 x.who, .string x.key, .slice ao x.disk.files.length cp, .int .i64 x.disk.fuse, .int .i64 x.seen.1, .string x.seen.2] rfl rfl (old := _) (HG2.out _ HB4.out) (by kernel_rfl) rfl (by simp [Value.oneCell']) ?_; intro wz gz uz) | (refine wpList_store_blk (by rfl) 39 (.tmp 7) (.tmp 45) rfl (w.heap.size + 3) #[.int .i64 0, .string ⟨#[]⟩] rfl rfl (old := _) (blk_upd (HG3.out _ HB4.out) uz (by omega)) (by kernel_rfl) rfl (by simp [Value.oneCell']) ?_; intro wy gy uy))
        have hbz := below_upd (HW0.out.trans (HB4.out.mono HW0.out.size)) uz (by omega) (HW0.out.trans (HB4.out.mono HW0.out.size)).size
        have hby := below_upd hbz uy (by omega) hbz.size
        obtain ⟨r0, r1, r2, r3, r4, r5⟩ := six_cells (blk_upd gz uy (by omega))
        obtain ⟨s0, s1, sz0, sz1⟩ := cell_of_two (gy)
        refine bodyPost_ret (v := .tuple #[.agg #[.int .i64 x.who, .string x.key, .slice ao x.disk.files.length cp, .int .i64 x.disk.fuse, .int .i64 x.seen.1, .string x.seen.2], .agg #[.int .i64 0, .string ⟨#[]⟩], .int .i64 me]) ?_ rfl ⟨_, rfl, hby, .inl ⟨rfl, rfl⟩⟩
        simp [results, Tryd.f7, go_sem, r0, r1, r2, r3, r4, r5, s0, s1] <;> rfl
    · have hF := HF.out.trans (markW_2 HGD.out (by rw [HFE.out]; exact h2))
      rw [HFE.out] at hF
      subst hF
      have n1 : (fo == 0) = false := beq_eq_false_iff_ne.2 h2
      have n2 : (fo != 0) = true := by rw [bne, n1]; rfl
      clear h2
      go_wp2_with (first | (refine wpList_store_blk (by rfl) 30 (.tmp 6) (.tmp 30) rfl (w.heap.size + 2) #[.int .i64 x.who, .string x.key, .slice ao x.disk.files.length cp, .int .i64 x.disk.fuse, .int .i64 x.seen.1, .string x.seen.2] rfl rfl (old := _) (HG2.out _ HB2.out) (by kernel_rfl) rfl (by simp [Value.oneCell']) ?_; intro wz gz uz) | (refine wpList_store_blk (by rfl) 39 (.tmp 7) (.tmp 31) rfl (w.heap.size + 3) #[.int .i64 0, .string ⟨#[]⟩] rfl rfl (old := _) (blk_upd (HG3.out _ HB2.out) uz (by omega)) (by kernel_rfl) rfl (by simp [Value.oneCell']) ?_; intro wy gy uy))
      have hbz := below_upd (HW0.out.trans (HB2.out.mono HW0.out.size)) uz (by omega) (HW0.out.trans (HB2.out.mono HW0.out.size)).size
      have hby := below_upd hbz uy (by omega) hbz.size
      obtain ⟨r0, r1, r2, r3, r4, r5⟩ := six_cells (blk_upd gz uy (by omega))
      obtain ⟨s0, s1, sz0, sz1⟩ := cell_of_two (gy)
      refine bodyPost_ret (v := .tuple #[.agg #[.int .i64 x.who, .string x.key, .slice ao x.disk.files.length cp, .int .i64 x.disk.fuse, .int .i64 x.seen.1, .string x.seen.2], .agg #[.int .i64 0, .string ⟨#[]⟩], .int .i64 fo]) ?_ rfl ⟨_, rfl, hby, .inl ⟨rfl, rfl⟩⟩
      simp [results, Tryd.f7, go_sem, r0, r1, r2, r3, r4, r5, s0, s1] <;> rfl
  · rw [textF_bad hg] at htx
    have hF := HF.out.trans (markW_1 hg)
    subst hF
    obtain ⟨ge, hge⟩ : ∃ ge, ge = goodH h.1 h.2 := ⟨_, rfl⟩
    rw [← hge] at hg htx ⊢
    have n1 : (ge == 0) = false := beq_eq_false_iff_ne.2 hg
    have n2 : (ge != 0) = true := by rw [bne, n1]; rfl
    clear hg hge
    go_wp2_with fail
    (with_reducible refine (htx _).mono ?_)
    rintro e w1 ⟨rfl, hb⟩
    have HB1 := Lib.hid (HB0.out.trans (hb.mono HB0.out.size))
    clear hb
    clear htx hW
    clear c0 c1 c2 c3 c4 c5
    clear d0 d1 dz0 dz1
    obtain ⟨c0, c1, c2, c3, c4, c5⟩ := six_cells (HG0.out _ HB1.out)
    obtain ⟨d0, d1, dz0, dz1⟩ := cell_of_two (HG1.out _ HB1.out)
    go_wp2_with (first | (refine wpList_store_blk (by rfl) 30 (.tmp 6) (.tmp 20) rfl (w.heap.size + 2) #[.int .i64 x.who, .string x.key, .slice ao x.disk.files.length cp, .int .i64 x.disk.fuse, .int .i64 x.seen.1, .string x.seen.2] rfl rfl (old := _) (HG2.out _ HB1.out) (by kernel_rfl) rfl (by simp [Value.oneCell']) ?_; intro wz gz uz) | (refine wpList_store_blk (by rfl) 39 (.tmp 7) (.tmp 21) rfl (w.heap.size + 3) #[.int .i64 0, .string ⟨#[]⟩] rfl rfl (old := _) (blk_upd (HG3.out _ HB1.out) uz (by omega)) (by kernel_rfl) rfl (by simp [Value.oneCell']) ?_; intro wy gy uy))
    have hbz := below_upd (HW0.out.trans (HB1.out.mono HW0.out.size)) uz (by omega) (HW0.out.trans (HB1.out.mono HW0.out.size)).size
    have hby := below_upd hbz uy (by omega) hbz.size
    obtain ⟨r0, r1, r2, r3, r4, r5⟩ := six_cells (blk_upd gz uy (by omega))
    obtain ⟨s0, s1, sz0, sz1⟩ := cell_of_two (gy)
    refine bodyPost_ret (v := .tuple #[.agg #[.int .i64 x.who, .string x.key, .slice ao x.disk.files.length cp, .int .i64 x.disk.fuse, .int .i64 x.seen.1, .string x.seen.2], .agg #[.int .i64 0, .string ⟨#[]⟩], .int .i64 ge]) ?_ rfl ⟨_, rfl, hby, .inl ⟨rfl, rfl⟩⟩
    simp [results, Tryd.f7, go_sem, r0, r1, r2, r3, r4, r5, s0, s1] <;> rfl
end Go.Proofs.YtmacceamebdelaaDoor
