/- The walks of package store's file, Get and Put. -/
import Derived.Test.YtalkheljejkpiaaDoorStoreLaw
import Derived.Test.YtalkheljejkpiaaDoorObjectIds
import Derived.Test.YtalkheljejkpiaaDoorSumUnhexLaw
import Derived.Test.YtalkheljejkpiaaDoorRegion4
namespace Go.Proofs.YtalkheljejkpiaaDoor
open Go.RowKit
set_option linter.unusedVariables false
set_option linter.unusedSimpArgs false

theorem NewF.upd {B b : Nat} {w w' : World} {v v1 : Value} {l l1 : List Fil} (h : NewF B w v v1 l l1) (hu : Upd (· = b) w w') {cs : Array Value} {fr : Nat × Nat} (hb : w.heap[b]? = some (.cells cs 38 fr)) : NewF B w' v v1 l l1 := by
  rcases h with h | h
  · exact .inl h
  · have hn := owns_ne (e := 92) (t := 38) h hb (by decide)
    exact .inr (owns_upd h hu (fun k hk e => hn (e ▸ hk)))
theorem wp_store_blkS {P : Program} {w : World} {o : Oper} {a : Act} {K : Act → World → Prop} {Q : Exit → Act → World → Prop} (ty : TypeId) (x y : Operand) (ho : o.op = .store ty x y)
    (g : Nat) (cells : Array Value) (hx : a.eval x = .pointer (some ⟨g, 0, none⟩)) (hy : a.eval y = .agg cells)
    {t : TypeId} {old : Array Value} (hg : w.heap[g]? = some (.cells old t (0, 0))) (hi : (P.info? ty).map (·.size) = some cells.size)
    (hold : old.size = cells.size) (h1 : cells.all (·.oneCell') = true)
    (h : ∀ w' : World, w'.heap[g]? = some (.cells cells t (0, 0)) → Upd (· = g) w w' → K (a.put o.dst undef) w') : o.wp P a w K Q :=
  wp_store_row ty x y ho g cells hx hy t old hg hi hold h1 (h _ (setRow_heap w g old cells t (0, 0) hg) (upd_setRow cells))
set_option maxRecDepth 100000 in
set_option maxHeartbeats 3200000 in
theorem file_any (id : ByteArray) (w : World) (h : id.size ≤ 1000000) : Calls Tryd.prog 47 #[.string id] w fun e w' => e = .returned (.string (fileF id)) ∧ Below w.heap.size w w' := by
  have HX := Lib.hid (hex_any id w (by omega))
  obtain ⟨x, hx⟩ : ∃ x, x = hexF id := ⟨_, rfl⟩
  have hz : x.size ≤ 2000000 := by rw [hx, hexF_size]; omega
  obtain ⟨c, hc⟩ : ∃ c : ByteArray, (⟨#[111]⟩ : ByteArray) = c := ⟨_, rfl⟩
  have HF := Lib.hid (show fileF id = c ++ x by rw [hx, ← hc]; rfl)
  rw [← hx] at HX
  rw [HF.out]
  have hcz : c.size = 1 := by rw [← hc]; rfl
  clear hx
  go_enter Tryd.func47, Tryd.ntmps47
  go_wp2_with fail
  (with_reducible refine HX.out.mono ?_)
  rintro e w1 ⟨rfl, hb⟩
  have HB1 := Lib.hid hb
  clear hb HX
  go_wp2_with fail
  go_ret
  exact ⟨rfl, HB1.out⟩
set_option maxRecDepth 100000 in
set_option maxHeartbeats 3200000 in
theorem sget_any (l : List Fil) (fuse : Int) (v : Value) (w : World) (hr : rdF w v l) (id : ByteArray) (hi : id.size ≤ 9223372036854775807) (ht : Tab w) :
    Calls Tryd.prog 21 #[.agg #[v, .int .i64 fuse], .string id] w fun e w' => e = .returned (.tuple #[.string (getF ⟨l, fuse⟩ id).1, .int .i64 (getF ⟨l, fuse⟩ id).2]) ∧ Below w.heap.size w w' := by
  obtain ⟨r, hr0⟩ : ∃ r, r = getF ⟨l, fuse⟩ id := ⟨_, rfl⟩
  rw [← hr0]
  have HRE := Lib.hid hr0
  obtain ⟨ao, cp, rfl⟩ := rd_form hr
  obtain ⟨W, hW⟩ : ∃ W, w.alloc (.cells #[.slice ao l.length cp, .int .i64 fuse] 38) = W := ⟨_, rfl⟩
  have hbW : Below w.heap.size w W := by rw [← hW]; exact (Below.refl _ _).alloc (Nat.le_refl _) _
  have g0 : W.heap[w.heap.size]? = some (.cells #[.slice ao l.length cp, .int .i64 fuse] 38 (0, 0)) := by rw [← hW]; exact heap_alloc_new _ _
  have HG := Lib.hid (fun w' (h : Below W.heap.size W w') => blk_below g0 h)
  have HRD := Lib.hid (hr.below hbW)
  have HT := Lib.hid (fun w' (h : Below w.heap.size w w') => ht.below h)
  have HW0 := Lib.hid hbW
  have HB0 := Lib.hid (Below.refl W.heap.size W)
  obtain ⟨c0, c1, z0, z1⟩ := cell_of_two g0
  clear hr hr0 hbW g0 ht
  by_cases h32 : id.size = 32
  · have t1 : ((id.size : Int) == 32) = true := beq_iff_eq.2 (by omega)
    have t2 : ((id.size : Int) != 32) = false := by rw [bne, t1]; rfl
    have HNE := Lib.hid (show ¬ id.size ≠ 32 from fun h => h h32)
    have HFI := Lib.hid (fun wr => file_any id wr (by omega))
    obtain ⟨fn, hfn⟩ : ∃ fn, fn = fileF id := ⟨_, rfl⟩
    rw [← hfn] at HFI
    have HDR := Lib.hid (fun wr (h : Below W.heap.size W wr) => dread_any l fuse (.slice ao l.length cp) wr (HRD.out.below h) fn)
    obtain ⟨⟨x, er⟩, hx⟩ : ∃ q, q = readD namedD ⟨l, fuse⟩ fn := ⟨_, rfl⟩
    rw [← hx] at HDR
    have HXE := Lib.hid (show readD namedD ⟨l, fuse⟩ (fileF id) = (x, er) by rw [← hfn, ← hx])
    clear hx hfn h32
    go_enter Tryd.func21, Tryd.ntmps21
    go_wp2_with fail
    have HB1 := Lib.hid (below_drew HB0.out)
    clear hW c0 c1 z0 z1 t1 t2
    obtain ⟨c0, c1, z0, z1⟩ := cell_of_two (HG.out _ HB1.out)
    refine Lone.wp_region_order [(0, false), (1, false), (2, true), (3, true), (4, false), (5, false), (6, false), (7, false), (8, false)] (fun w' => w'.cell? ⟨w.heap.size, 0, none⟩ = some (.slice ao l.length cp) ∧ w'.cell? ⟨w.heap.size, 1, none⟩ = some (.int .i64 fuse)) (by kernel_rfl) (by kernel_rfl) rfl (by kernel_rfl) (by intro _ _ d _ _ h; cases d <;> exact h) (⟨c0, c1⟩) ?_; simp only [List.map_cons, List.map_nil, List.getElem?_toArray, List.getElem?_cons_zero, List.getElem?_cons_succ, Option.getD_some]
    repeat (first | (refine Lone.ro_q (by rfl) (v := ?_) ?_ ?_; rotate_left; (focus (intro w' hSw; (try dsimp only at hSw); go_simp; try with_reducible rfl)); simp only [Act.put, List.setIfInBounds_toArray, List.set_cons_zero, List.set_cons_succ]) | (refine Lone.ro_skip (by rfl) ?_; simp only [Act.put, List.setIfInBounds_toArray, List.set_cons_zero, List.set_cons_succ]))
    (refine Lone.ro_loud (by rfl) (fun K hK => ?_); go_simp)
    (with_reducible refine (HFI.out _).mono ?_)
    rintro e w2 ⟨rfl, hb⟩
    have HB2 := Lib.hid (HB1.out.trans (hb.mono HB1.out.size))
    clear hb c0 c1 z0 z1
    obtain ⟨c0, c1, z0, z1⟩ := cell_of_two (HG.out _ HB2.out)
    (refine hK.out _ _ (fun w' => w'.cell? ⟨w.heap.size, 0, none⟩ = some (.slice ao l.length cp) ∧ w'.cell? ⟨w.heap.size, 1, none⟩ = some (.int .i64 fuse)) (.inl fun _ h => h) (⟨c0, c1⟩) ?_; clear hK K; try simp only [Act.put, List.setIfInBounds_toArray, List.set_cons_zero, List.set_cons_succ])
    repeat (first | (refine Lone.ro_q (by rfl) (v := ?_) ?_ ?_; rotate_left; (focus (intro w' hSw; (try dsimp only at hSw); go_simp; try with_reducible rfl)); simp only [Act.put, List.setIfInBounds_toArray, List.set_cons_zero, List.set_cons_succ]) | (refine Lone.ro_skip (by rfl) ?_; simp only [Act.put, List.setIfInBounds_toArray, List.set_cons_zero, List.set_cons_succ]))
    (refine Lone.ro_loud (by rfl) (fun K hK => ?_); go_simp)
    (with_reducible refine (HDR.out _ HB2.out).mono ?_)
    rintro e w3 ⟨rfl, hb⟩
    have HB3 := Lib.hid (HB2.out.trans (hb.mono HB2.out.size))
    clear hb c0 c1 z0 z1
    obtain ⟨c0, c1, z0, z1⟩ := cell_of_two (HG.out _ HB3.out)
    (refine hK.out _ _ (fun w' => w'.cell? ⟨w.heap.size, 0, none⟩ = some (.slice ao l.length cp) ∧ w'.cell? ⟨w.heap.size, 1, none⟩ = some (.int .i64 fuse)) (.inl fun _ h => h) (⟨c0, c1⟩) ?_; clear hK K; try simp only [Act.put, List.setIfInBounds_toArray, List.set_cons_zero, List.set_cons_succ])
    repeat (first | (refine Lone.ro_q (by rfl) (v := ?_) ?_ ?_; rotate_left; (focus (intro w' hSw; (try dsimp only at hSw); go_simp; try with_reducible rfl)); simp only [Act.put, List.setIfInBounds_toArray, List.set_cons_zero, List.set_cons_succ]) | (refine Lone.ro_skip (by rfl) ?_; simp only [Act.put, List.setIfInBounds_toArray, List.set_cons_zero, List.set_cons_succ]))
    refine Lone.ro_nil ?_
    by_cases he : er = 0
    · subst he
      have HSI := Lib.hid (id_any x w3 (HT.out _ (HW0.out.trans (HB3.out.mono HW0.out.size))))
      obtain ⟨y, hy⟩ : ∃ y, y = sumF x := ⟨_, rfl⟩
      rw [← hy] at HSI
      have HY := Lib.hid hy
      clear hy c0 c1 z0 z1
      go_wp2_with fail
      (with_reducible refine HSI.out.mono ?_)
      rintro e w4 ⟨rfl, hb⟩
      have HB4 := Lib.hid (HB3.out.trans (hb.mono HB3.out.size))
      clear hb HSI
      by_cases hs : y = id
      · have m1 : (y.toList == id.toList) = true := by rw [hs]; exact beq_yes _
        have m2 : (y.toList != id.toList) = false := by rw [bne, m1]; rfl
        have hr := HRE.out.trans (getF_4 HNE.out HXE.out (by rw [← HY.out]; exact hs))
        subst hr
        clear hs
        go_wp2_with fail
        go_ret2
        exact ⟨rfl, HW0.out.trans (HB4.out.mono HW0.out.size)⟩
      · have m1 : (y.toList == id.toList) = false := beq_no hs
        have m2 : (y.toList != id.toList) = true := by rw [bne, m1]; rfl
        have hr := HRE.out.trans (getF_3 HNE.out HXE.out (by rw [← HY.out]; exact hs))
        subst hr
        clear hs
        go_wp2_with fail
        go_ret2
        exact ⟨rfl, HW0.out.trans (HB4.out.mono HW0.out.size)⟩
    · have n1 : (er == 0) = false := beq_eq_false_iff_ne.2 he
      have n2 : (er != 0) = true := by rw [bne, n1]; rfl
      have hr := HRE.out.trans (getF_2 HNE.out HXE.out he)
      subst hr
      clear he c0 c1 z0 z1
      go_wp2_with fail
      go_ret2
      exact ⟨rfl, HW0.out.trans (HB3.out.mono HW0.out.size)⟩
  · have t1 : ((id.size : Int) == 32) = false := beq_eq_false_iff_ne.2 (by omega)
    have t2 : ((id.size : Int) != 32) = true := by rw [bne, t1]; rfl
    have hr := HRE.out.trans (getF_1 h32)
    subst hr
    clear h32
    go_enter Tryd.func21, Tryd.ntmps21
    go_wp2_with fail
    go_ret2
    exact ⟨rfl, HW0.out⟩
def RetP (w : World) (r : Dsk × ByteArray × Int) (e : Ending) (w' : World) : Prop := ∃ v', e = .returned (.tuple #[.agg #[v', .int .i64 r.1.fuse], .string r.2.1, .int .i64 r.2.2]) ∧ rdF w' v' r.1.files ∧ Below w.heap.size w w'
def RetPN (w : World) (v : Value) (l : List Fil) (r : Dsk × ByteArray × Int) (e : Ending) (w' : World) : Prop := ∃ v', e = .returned (.tuple #[.agg #[v', .int .i64 r.1.fuse], .string r.2.1, .int .i64 r.2.2]) ∧ rdF w' v' r.1.files ∧ Below w.heap.size w w' ∧ NewF w.heap.size w' v v' l r.1.files
theorem RetPN.d {w w' : World} {v : Value} {l : List Fil} {r : Dsk × ByteArray × Int} {e : Ending} (h : RetPN w v l r e w') : RetP w r e w' := by
  obtain ⟨v', h1, h2, h3, _⟩ := h
  exact ⟨v', h1, h2, h3⟩
set_option maxRecDepth 100000 in
set_option maxHeartbeats 3200000 in
theorem sput_anyN (l : List Fil) (fuse : Int) (hfu : -9223372036854775808 ≤ fuse ∧ fuse ≤ 9223372036854775807) (v : Value) (w : World) (hr : rdF w v l) (s : ByteArray) (hs : s.size ≤ 9223372036854775807) (ht : Tab w) :
    Calls Tryd.prog 18 #[.agg #[v, .int .i64 fuse], .string s] w (RetPN w v l (putF ⟨l, fuse⟩ s)) := by
  obtain ⟨r, hr0⟩ : ∃ r, r = putF ⟨l, fuse⟩ s := ⟨_, rfl⟩
  rw [← hr0]
  have HRE := Lib.hid hr0
  have HFU := Lib.hid hfu
  obtain ⟨ao, cp, rfl⟩ := rd_form hr
  obtain ⟨W, hW⟩ : ∃ W, (w.alloc (.cells #[.slice ao l.length cp, .int .i64 fuse] 38)).alloc (.cells #[.slice none 0 0, .int .i64 0] 38) = W := ⟨_, rfl⟩
  have hbW : Below w.heap.size w W := by rw [← hW]; exact ((Below.refl _ _).alloc (Nat.le_refl _) _).alloc (by simp) _
  have g0 : W.heap[w.heap.size]? = some (.cells #[.slice ao l.length cp, .int .i64 fuse] 38 (0, 0)) := by rw [← hW]; exact heap_old (heap_alloc_new _ _)
  have g1 : W.heap[w.heap.size + 1]? = some (.cells #[.slice none 0 0, .int .i64 0] 38 (0, 0)) := by rw [← hW]; exact heap_new (by simp)
  have HG := Lib.hid (fun w' (h : Below W.heap.size W w') => blk_below g0 h)
  have HGR := Lib.hid (fun w' (h : Below W.heap.size W w') => blk_below g1 h)
  have HRD := Lib.hid (hr.below hbW)
  have HT := Lib.hid (fun w' (h : Below w.heap.size w w') => ht.below h)
  have HW0 := Lib.hid hbW
  have HB0 := Lib.hid (Below.refl W.heap.size W)
  obtain ⟨c0, c1, z0, z1⟩ := cell_of_two g0
  clear hr hr0 hbW g0 g1 ht hfu
  have HDEC := Lib.hid (decode_any s W hs)
  obtain ⟨⟨o, ed⟩, hq⟩ : ∃ q, q = decodeF s := ⟨_, rfl⟩
  rw [← hq] at HDEC
  have HED := Lib.hid (show (decodeF s).2 = ed by rw [← hq])
  clear hq hs
  go_enter Tryd.func18, Tryd.ntmps18
  go_wp2_with fail
  (with_reducible refine HDEC.out.mono ?_)
  rintro e w2 ⟨ve, vp, rfl, re, rs, hb⟩
  have HB2 := Lib.hid hb
  obtain ⟨C, hC⟩ : ∃ C : Array Value, C = (objC o ve vp).toArray := ⟨_, rfl⟩
  have hsz : C.size = 9 := by rw [hC]; rfl
  have hone : C.all (·.oneCell') = true := by rw [hC]; exact objC_one re rs
  rw [← hC]
  clear hC re rs hb HDEC hW c0 c1 z0 z1
  by_cases hz : ed = 0
  · subst hz
    go_wp2_with (refine wpList_store_blk (by rfl) 54 (.tmp 7) (.tmp 16) rfl w2.heap.size C rfl rfl (old := _) (heap_alloc_new _ _) (by rw [hsz]; exact info_ob) (by rw [hsz]; rfl) hone ?_; intro w3 gy uy; have hbz := below_upd ((Below.refl w2.heap.size w2).alloc (Nat.le_refl _) _) uy (Nat.le_refl _) (by simp); have HB3 := Lib.hid (HB2.out.trans (hbz.mono HB2.out.size)); clear gy uy hbz; obtain ⟨c0, c1, z0, z1⟩ := cell_of_two (HG.out _ HB3.out))
    clear hsz hone
    have HID := Lib.hid (id_any s w3 (HT.out _ (HW0.out.trans (HB3.out.mono HW0.out.size))))
    obtain ⟨id, hid⟩ : ∃ id, id = sumF s := ⟨_, rfl⟩
    rw [← hid] at HID
    have HIE := Lib.hid hid
    have HI32 := Lib.hid (show id.size = 32 by rw [hid]; exact sumF_size s)
    clear hid
    (with_reducible refine HID.out.mono ?_)
    rintro e w4 ⟨rfl, hb⟩
    have HB4 := Lib.hid (HB3.out.trans (hb.mono HB3.out.size))
    clear hb HID c0 c1 z0 z1
    obtain ⟨c0, c1, z0, z1⟩ := cell_of_two (HG.out _ HB4.out)
    have hgt := sget_any l fuse (.slice ao l.length cp) w4 (HRD.out.below HB4.out) id (by rw [HI32.out]; decide) (HT.out _ (HW0.out.trans (HB4.out.mono HW0.out.size)))
    obtain ⟨⟨gs, ge⟩, hg⟩ : ∃ q, q = getF ⟨l, fuse⟩ id := ⟨_, rfl⟩
    rw [← hg] at hgt
    have HGT := Lib.hid hgt
    have HGE := Lib.hid (show (getF ⟨l, fuse⟩ (sumF s)).2 = ge by rw [← HIE.out, ← hg])
    clear hgt hg
    go_wp2_with fail
    (with_reducible refine HGT.out.mono ?_)
    rintro e w5 ⟨rfl, hb⟩
    have HB5 := Lib.hid (HB4.out.trans (hb.mono HB4.out.size))
    clear hb HGT c0 c1 z0 z1
    obtain ⟨c0, c1, z0, z1⟩ := cell_of_two (HG.out _ HB5.out)
    by_cases hge : ge = 0
    · subst hge
      have hr := HRE.out.trans (putF_2 HED.out HGE.out)
      rw [← HIE.out] at hr
      subst hr
      go_wp2_with (refine wpList_store_blk (by rfl) 38 (.tmp 4) (.tmp 32) rfl (w.heap.size + 1) #[.slice ao l.length cp, .int .i64 fuse] rfl rfl (old := _) (HGR.out _ HB5.out) (by kernel_rfl) rfl (by simp [Value.oneCell']) ?_; intro wz gz uz)
      obtain ⟨r0, r1, _, _⟩ := cell_of_two gz
      refine bodyPost_ret (v := .tuple #[.agg #[.slice ao l.length cp, .int .i64 fuse], .string id, .int .i64 0]) ?_ rfl ⟨_, rfl, rdF_upd (HRD.out.below HB5.out) uz (no_str (HGR.out _ HB5.out)), below_upd (HW0.out.trans (HB5.out.mono HW0.out.size)) uz (Nat.le_succ _) ((HW0.out.trans (HB5.out.mono HW0.out.size))).size, .inl ⟨rfl, rfl⟩⟩
      simp [results, Tryd.f18, go_sem, r0, r1] <;> rfl
    · have n1 : (ge == 0) = false := beq_eq_false_iff_ne.2 hge
      have n2 : (ge != 0) = true := by rw [bne, n1]; rfl
      have HGN := Lib.hid (show (getF ⟨l, fuse⟩ (sumF s)).2 ≠ 0 by rw [HGE.out]; exact hge)
      clear hge
      have HFI := Lib.hid (fun wr => file_any id wr (by rw [HI32.out]; decide))
      obtain ⟨fn, hfn⟩ : ∃ fn, fn = fileF id := ⟨_, rfl⟩
      rw [← hfn] at HFI
      have HSV := Lib.hid (fun wr (h : Below W.heap.size W wr) => save_anyN l fuse HFU.out (.slice ao l.length cp) wr (HRD.out.below h) fn s)
      obtain ⟨⟨⟨fl, fz⟩, es⟩, hsv⟩ : ∃ q, q = saveD namedD ⟨l, fuse⟩ fn s := ⟨_, rfl⟩
      rw [← hsv] at HSV
      have HSE := Lib.hid (show saveD namedD ⟨l, fuse⟩ (fileF (sumF s)) s = (⟨fl, fz⟩, es) by rw [← HIE.out, ← hfn, ← hsv])
      clear hsv hfn
      have HB6 := Lib.hid (below_drew HB5.out)
      clear c0 c1 z0 z1
      obtain ⟨c0, c1, z0, z1⟩ := cell_of_two (HG.out _ HB6.out)
      go_wp2_with fail
      refine Sole.wp_region_order [(0, false), (1, false), (3, false), (2, true), (4, true), (5, false), (6, false), (7, false), (8, true), (9, false)] (fun w' => w'.cell? ⟨w.heap.size, 0, none⟩ = some (.slice ao l.length cp) ∧ w'.cell? ⟨w.heap.size, 1, none⟩ = some (.int .i64 fuse)) (by kernel_rfl) (by kernel_rfl) rfl (by kernel_rfl) (by intro _ _ d _ _ h; cases d <;> exact h) (⟨c0, c1⟩) ?_; simp only [List.map_cons, List.map_nil, List.getElem?_toArray, List.getElem?_cons_zero, List.getElem?_cons_succ, Option.getD_some]
      repeat (first | (refine Sole.ro_q (by rfl) (v := ?_) ?_ ?_; rotate_left; (focus (intro w' hSw; (try dsimp only at hSw); go_simp; try with_reducible rfl)); simp only [Act.put, List.setIfInBounds_toArray, List.set_cons_zero, List.set_cons_succ]) | (refine Sole.ro_skip (by rfl) ?_; simp only [Act.put, List.setIfInBounds_toArray, List.set_cons_zero, List.set_cons_succ]))
      (refine Sole.ro_loud (by rfl) (fun K hK => ?_); go_simp)
      (with_reducible refine (HFI.out _).mono ?_)
      rintro e w7 ⟨rfl, hb⟩
      have HB7 := Lib.hid (HB6.out.trans (hb.mono HB6.out.size))
      clear hb c0 c1 z0 z1
      obtain ⟨c0, c1, z0, z1⟩ := cell_of_two (HG.out _ HB7.out)
      (refine hK.out _ _ (fun w' => w'.cell? ⟨w.heap.size, 0, none⟩ = some (.slice ao l.length cp) ∧ w'.cell? ⟨w.heap.size, 1, none⟩ = some (.int .i64 fuse)) (.inl fun _ h => h) (⟨c0, c1⟩) ?_; clear hK K; try simp only [Act.put, List.setIfInBounds_toArray, List.set_cons_zero, List.set_cons_succ])
      repeat (first | (refine Sole.ro_q (by rfl) (v := ?_) ?_ ?_; rotate_left; (focus (intro w' hSw; (try dsimp only at hSw); go_simp; try with_reducible rfl)); simp only [Act.put, List.setIfInBounds_toArray, List.set_cons_zero, List.set_cons_succ]) | (refine Sole.ro_skip (by rfl) ?_; simp only [Act.put, List.setIfInBounds_toArray, List.set_cons_zero, List.set_cons_succ]))
      (refine Sole.ro_loud (by rfl) (fun K hK => ?_); go_simp)
      (with_reducible refine (HSV.out _ HB7.out).mono ?_)
      rintro e w8 ⟨v2, rfl, hrd, hb, hnw⟩
      obtain ⟨ao2, cp2, rfl⟩ := rd_form hrd
      have HR8 := Lib.hid hrd
      have HNW8 := Lib.hid (hnw.mono (HW0.out.trans (HB7.out.mono HW0.out.size)).size)
      have HB8 := Lib.hid (HB7.out.trans (hb.mono HB7.out.size))
      clear hnw hb hrd c0 c1 z0 z1
      obtain ⟨c0, c1, z0, z1⟩ := cell_of_two (HG.out _ HB8.out)
      (refine hK.out _ _ (fun w' => w'.cell? ⟨w.heap.size, 0, none⟩ = some (.slice ao l.length cp) ∧ w'.cell? ⟨w.heap.size, 1, none⟩ = some (.int .i64 fuse)) (.inl fun _ h => h) (⟨c0, c1⟩) ?_; clear hK K; try simp only [Act.put, List.setIfInBounds_toArray, List.set_cons_zero, List.set_cons_succ])
      repeat (first | (refine Sole.ro_q (by rfl) (v := ?_) ?_ ?_; rotate_left; (focus (intro w' hSw; (try dsimp only at hSw); go_simp; try with_reducible rfl)); simp only [Act.put, List.setIfInBounds_toArray, List.set_cons_zero, List.set_cons_succ]) | (refine Sole.ro_skip (by rfl) ?_; simp only [Act.put, List.setIfInBounds_toArray, List.set_cons_zero, List.set_cons_succ]))
      (refine Sole.ro_loud (by rfl) (fun K hK => ?_))
      refine wp_store_blkS 38 (.tmp 2) (.tmp 40) rfl w.heap.size #[.slice ao2 fl.length cp2, .int .i64 fz] rfl rfl (old := _) (HG.out _ HB8.out) (by kernel_rfl) rfl (by simp [Value.oneCell']) ?_
      intro w9 g9 u9
      have HNW9 := Lib.hid (HNW8.out.upd u9 (HG.out _ HB8.out))
      have HGR9 := Lib.hid (blk_upd (HGR.out _ HB8.out) u9 (by omega))
      have HR9 := Lib.hid (rdF_upd HR8.out u9 (no_str (HG.out _ HB8.out)))
      have HB9 := Lib.hid (below_upd (HW0.out.trans (HB8.out.mono HW0.out.size)) u9 (Nat.le_refl _) (HW0.out.trans (HB8.out.mono HW0.out.size)).size)
      clear c0 c1 z0 z1
      obtain ⟨c0, c1, z0, z1⟩ := cell_of_two g9
      clear u9 g9
      (refine hK.out _ _ (fun _ => True) (.inr (by kernel_rfl)) (trivial) ?_; clear hK K; try simp only [Act.put, List.setIfInBounds_toArray, List.set_cons_zero, List.set_cons_succ])
      repeat (first | (refine Sole.ro_q (by rfl) (v := ?_) ?_ ?_; rotate_left; (focus (intro w' hSw; (try dsimp only at hSw); go_simp; try with_reducible rfl)); simp only [Act.put, List.setIfInBounds_toArray, List.set_cons_zero, List.set_cons_succ]) | (refine Sole.ro_skip (by rfl) ?_; simp only [Act.put, List.setIfInBounds_toArray, List.set_cons_zero, List.set_cons_succ]))
      refine Sole.ro_nil ?_
      by_cases hes : es = 0
      · subst hes
        have hr := HRE.out.trans (putF_4 HED.out HGN.out HSE.out)
        rw [← HIE.out] at hr
        subst hr
        go_wp2_with (refine wpList_store_blk (by rfl) 38 (.tmp 4) (.tmp 46) rfl (w.heap.size + 1) #[.slice ao2 fl.length cp2, .int .i64 fz] rfl rfl (old := _) (HGR9.out) (by kernel_rfl) rfl (by simp [Value.oneCell']) ?_; intro wz gz uz)
        obtain ⟨r0, r1, _, _⟩ := cell_of_two gz
        refine bodyPost_ret (v := .tuple #[.agg #[.slice ao2 fl.length cp2, .int .i64 fz], .string id, .int .i64 0]) ?_ rfl ⟨_, rfl, rdF_upd HR9.out uz (no_str HGR9.out), below_upd HB9.out uz (Nat.le_succ _) (HB9.out).size, HNW9.out.upd uz HGR9.out⟩
        simp [results, Tryd.f18, go_sem, r0, r1] <;> rfl
      · have n1 : (es == 0) = false := beq_eq_false_iff_ne.2 hes
        have n2 : (es != 0) = true := by rw [bne, n1]; rfl
        have hr := HRE.out.trans (putF_3 HED.out HGN.out HSE.out hes)
        subst hr
        clear hes
        go_wp2_with (refine wpList_store_blk (by rfl) 38 (.tmp 4) (.tmp 44) rfl (w.heap.size + 1) #[.slice ao2 fl.length cp2, .int .i64 fz] rfl rfl (old := _) (HGR9.out) (by kernel_rfl) rfl (by simp [Value.oneCell']) ?_; intro wz gz uz)
        obtain ⟨r0, r1, _, _⟩ := cell_of_two gz
        refine bodyPost_ret (v := .tuple #[.agg #[.slice ao2 fl.length cp2, .int .i64 fz], .string nilB, .int .i64 es]) ?_ rfl ⟨_, rfl, rdF_upd HR9.out uz (no_str HGR9.out), below_upd HB9.out uz (Nat.le_succ _) (HB9.out).size, HNW9.out.upd uz HGR9.out⟩
        simp [results, Tryd.f18, go_sem, r0, r1] <;> rfl
  · have n1 : (ed == 0) = false := beq_eq_false_iff_ne.2 hz
    have n2 : (ed != 0) = true := by rw [bne, n1]; rfl
    have hr := HRE.out.trans (putF_1 HED.out hz)
    subst hr
    clear hz
    go_wp2_with (first | (refine wpList_store_blk (by rfl) 54 (.tmp 7) (.tmp 16) rfl w2.heap.size C rfl rfl (old := _) (heap_alloc_new _ _) (by rw [hsz]; exact info_ob) (by rw [hsz]; rfl) hone ?_; intro w3 gy uy; have hbz := below_upd ((Below.refl w2.heap.size w2).alloc (Nat.le_refl _) _) uy (Nat.le_refl _) (by simp); have HB3 := Lib.hid (HB2.out.trans (hbz.mono HB2.out.size)); clear gy uy hbz; obtain ⟨c0, c1, z0, z1⟩ := cell_of_two (HG.out _ HB3.out)) | (refine wpList_store_blk (by rfl) 38 (.tmp 4) (.tmp 20) rfl (w.heap.size + 1) #[.slice ao l.length cp, .int .i64 fuse] rfl rfl (old := _) (HGR.out _ HB3.out) (by kernel_rfl) rfl (by simp [Value.oneCell']) ?_; intro wz gz uz))
    obtain ⟨r0, r1, _, _⟩ := cell_of_two gz
    refine bodyPost_ret (v := .tuple #[.agg #[.slice ao l.length cp, .int .i64 fuse], .string nilB, .int .i64 ed]) ?_ rfl ⟨_, rfl, rdF_upd (HRD.out.below HB3.out) uz (no_str (HGR.out _ HB3.out)), below_upd (HW0.out.trans (HB3.out.mono HW0.out.size)) uz (Nat.le_succ _) ((HW0.out.trans (HB3.out.mono HW0.out.size))).size, .inl ⟨rfl, rfl⟩⟩
    simp [results, Tryd.f18, go_sem, r0, r1] <;> rfl
theorem sput_any (l : List Fil) (fuse : Int) (hfu : -9223372036854775808 ≤ fuse ∧ fuse ≤ 9223372036854775807) (v : Value) (w : World) (hr : rdF w v l) (s : ByteArray) (hs : s.size ≤ 9223372036854775807) (ht : Tab w) :
    Calls Tryd.prog 18 #[.agg #[v, .int .i64 fuse], .string s] w (RetP w (putF ⟨l, fuse⟩ s)) :=
  (sput_anyN l fuse hfu v w hr s hs ht).mono (fun _ _ h => h.d)
end Go.Proofs.YtalkheljejkpiaaDoor
