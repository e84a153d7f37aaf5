/- Package disk's Write, Sync, Rename, Remove. -/
import Derived.Test.YtnggcldpojebkaaDisk7
namespace Go.Proofs.Ytnggcldpojebkaa
open Go.RowKit
set_option linter.unusedVariables false
set_option linter.unusedSimpArgs false

theorem heap_old {w : World} {o x : Obj} {k : Nat} (h : w.heap[k]? = some x) : (w.alloc o).heap[k]? = some x := (Below.heap_alloc _ _ _ (Array.getElem?_eq_some_iff.1 h).1).trans h
theorem heap_new {w : World} {o : Obj} {n : Nat} (h : w.heap.size = n) : (w.alloc o).heap[n]? = some o := by subst h; exact heap_alloc_new w o
theorem cell_one {w : World} {b : Nat} {x : Value} {t : TypeId} {fr : Nat × Nat} (h : w.heap[b]? = some (.cells #[x] t fr)) : w.cell? ⟨b, 0, none⟩ = some x := by simp [World.cell?, h]
theorem cell_upd {S : Nat → Prop} {w w' : World} (h : Upd S w w') {a : Addr} {u : Value} (hc : w.cell? a = some u) (hn : ¬ S a.block) : w'.cell? a = some u := by
  have hlt := World.block_lt_of_cell? w a hc
  have hb := h.block a.block hlt hn
  unfold World.cell? at hc ⊢
  rw [hb]
  exact hc
theorem no_str {w : World} {b : Nat} {ao : Option Addr} {n c : Nat} {k : IntKind} {i : Int} {t : TypeId} {fr : Nat × Nat} (h : w.heap[b]? = some (.cells #[.slice ao n c, .int k i] t fr)) : ∀ j u, w.cell? ⟨b, j, none⟩ = some u → ∀ s, u ≠ .string s := by
  intro j u hu s hs
  subst hs
  match j, hu with
  | 0, hu => simp [World.cell?, h] at hu
  | 1, hu => simp [World.cell?, h] at hu
  | j + 2, hu => simp [World.cell?, h] at hu
theorem rdF_upd {w w' : World} {v : Value} {l : List Fil} {b : Nat} (h : rdF w v l) (hu : Upd (fun i => i = b) w w') (hb : ∀ j u, w.cell? ⟨b, j, none⟩ = some u → ∀ s, u ≠ .string s) : rdF w' v l := by
  obtain ⟨h1, ao, cap, rfl, hle, hm, hz, hc⟩ := h
  refine ⟨h1, ao, cap, rfl, hle, hm, hz, fun a ha j u hj => ?_⟩
  have h0 := hc a ha j u hj
  refine cell_upd hu h0 (fun e => ?_)
  have hs := World.cell?_spot h0
  have hus : ∃ s, u = .string s := by
    have hm := List.mem_of_getElem? hj
    obtain ⟨x, _, hx⟩ := List.mem_flatMap.1 hm
    simp at hx
    rcases hx with rfl | rfl | rfl <;> exact ⟨_, rfl⟩
  obtain ⟨s, hs2⟩ := hus
  refine hb (a.add j).off u ?_ s hs2
  rw [← e, ← h0, ← hs]
theorem set2_updF {w : World} {g : Nat} (u u' : Value) : Upd (fun i => i = g) w ((w.setCell ⟨g, 0, none⟩ u).setCell ⟨g, 1, none⟩ u') := set2_upd u u'
set_option maxRecDepth 100000 in
set_option maxHeartbeats 3200000 in
theorem write_any (l : List Fil) (fuse : Int) (hfu : -9223372036854775808 ≤ fuse ∧ fuse ≤ 9223372036854775807) (v : Value) (w : World) (hr : rdF w v l) (name s : ByteArray) :
    Calls Try.prog 16 #[.agg #[v, .int .i64 fuse], .string name, .string s] w (RetD w (writeD namedD ⟨l, fuse⟩ name s)) := by
  obtain ⟨ao, cp, rfl⟩ := rd_form hr
  obtain ⟨W, hW⟩ : ∃ W, (((w.alloc (.cells #[.slice ao l.length cp, .int .i64 fuse] 30)).alloc (.cells #[.string name] 9)).alloc (.cells #[.string s] 9)).alloc (.cells #[.slice none 0 0, .int .i64 0] 30) = W := ⟨_, rfl⟩
  have hbW : Below w.heap.size w W := by rw [← hW]; exact ((((Below.refl _ _).alloc (Nat.le_refl _) _).alloc (by simp <;> omega) _).alloc (by simp <;> omega) _).alloc (by simp <;> omega) _
  have hsz : W.heap.size = w.heap.size + 4 := by rw [← hW]; simp
  have g0 : W.heap[w.heap.size]? = some (.cells #[.slice ao l.length cp, .int .i64 fuse] 30 (0, 0)) := by rw [← hW]; exact heap_old (heap_old (heap_old (heap_alloc_new _ _)))
  have n1 : W.cell? ⟨w.heap.size + 1, 0, none⟩ = some (.string name) := by rw [← hW]; exact cell_one (heap_old (heap_old (heap_new (by simp))))
  have n2 : W.cell? ⟨w.heap.size + 2, 0, none⟩ = some (.string s) := by rw [← hW]; exact cell_one (heap_old (heap_new (by simp)))
  have gr : W.heap[w.heap.size + 3]? = some (.cells #[.slice none 0 0, .int .i64 0] 30 (0, 0)) := by rw [← hW]; exact heap_new (by simp)
  have HST := Lib.hid (step_any l fuse hfu (writeO namedD name s) (.slice ao l.length cp) W (hr.below hbW) 35 #[.pointer (some ⟨w.heap.size + 1, 0, none⟩), .pointer (some ⟨w.heap.size + 2, 0, none⟩)] (enters_of Try.func35 (by kernel_rfl) rfl) (fun hg => writeC W l name s _ _ hg n1 n2))
  obtain ⟨r, hr0⟩ : ∃ r, r = stepD namedD ⟨l, fuse⟩ (writeO namedD name s) := ⟨_, rfl⟩
  rw [← hr0] at HST
  have HR := Lib.hid (show writeD namedD ⟨l, fuse⟩ name s = r from hr0.symm)
  rw [HR.out]
  obtain ⟨⟨fl, fz⟩, er⟩ := r
  have HGR := Lib.hid (fun w' (h : Below W.heap.size W w') => blk_below gr h)
  have HBW := Lib.hid hbW
  have HSZ := Lib.hid hsz
  clear hr hr0 gr hbW hsz n1 n2
  obtain ⟨c0, c1, z0, z1⟩ := cell_of_two g0
  clear g0
  go_enter Try.func16, Try.ntmps16
  go_wp2_with fail
  (with_reducible refine HST.out.mono ?_)
  rintro e w1 ⟨v', rfl, hrd, hb⟩
  obtain ⟨ao2, cp2, rfl⟩ := rd_form hrd
  have HB1 := Lib.hid hb
  have HRD := Lib.hid hrd
  clear hb hrd c0 c1 z0 z1 hW HST
  obtain ⟨d0, d1, y0, y1⟩ := cell_of_two (HGR.out _ HB1.out)
  go_wp2_with fail
  have hgf := two_setCell1 (u := .int .i64 fz) (two_setCell0 (u := .slice ao2 fl.length cp2) (HGR.out _ HB1.out))
  obtain ⟨e0, e1, _, _⟩ := cell_of_two hgf
  refine bodyPost_ret (v := .tuple #[.agg #[.slice ao2 fl.length cp2, .int .i64 fz], .int .i64 er]) ?_ rfl ⟨_, rfl, ?_, ?_⟩
  · simp [results, Try.f16, go_sem, e0, e1]
  · exact rdF_upd HRD.out (set2_upd _ _) (no_str (HGR.out _ HB1.out))
  · exact set2_below (HBW.out.trans (HB1.out.mono HBW.out.size)) (by omega) _ _
set_option maxRecDepth 100000 in
set_option maxHeartbeats 3200000 in
theorem sync_any (l : List Fil) (fuse : Int) (hfu : -9223372036854775808 ≤ fuse ∧ fuse ≤ 9223372036854775807) (v : Value) (w : World) (hr : rdF w v l) (name : ByteArray) :
    Calls Try.prog 41 #[.agg #[v, .int .i64 fuse], .string name] w (RetD w (syncD namedD ⟨l, fuse⟩ name)) := by
  obtain ⟨ao, cp, rfl⟩ := rd_form hr
  obtain ⟨W, hW⟩ : ∃ W, ((w.alloc (.cells #[.slice ao l.length cp, .int .i64 fuse] 30)).alloc (.cells #[.string name] 9)).alloc (.cells #[.slice none 0 0, .int .i64 0] 30) = W := ⟨_, rfl⟩
  have hbW : Below w.heap.size w W := by rw [← hW]; exact (((Below.refl _ _).alloc (Nat.le_refl _) _).alloc (by simp <;> omega) _).alloc (by simp <;> omega) _
  have hsz : W.heap.size = w.heap.size + 3 := by rw [← hW]; simp
  have g0 : W.heap[w.heap.size]? = some (.cells #[.slice ao l.length cp, .int .i64 fuse] 30 (0, 0)) := by rw [← hW]; exact heap_old (heap_old (heap_alloc_new _ _))
  have n1 : W.cell? ⟨w.heap.size + 1, 0, none⟩ = some (.string name) := by rw [← hW]; exact cell_one (heap_old (heap_new (by simp)))
  have gr : W.heap[w.heap.size + 2]? = some (.cells #[.slice none 0 0, .int .i64 0] 30 (0, 0)) := by rw [← hW]; exact heap_new (by simp)
  have HST := Lib.hid (step_any l fuse hfu (syncO name) (.slice ao l.length cp) W (hr.below hbW) 52 #[.pointer (some ⟨w.heap.size + 1, 0, none⟩)] (enters_of Try.func52 (by kernel_rfl) rfl) (fun hg => syncC W l name _ hg n1))
  obtain ⟨r, hr0⟩ : ∃ r, r = stepD namedD ⟨l, fuse⟩ (syncO name) := ⟨_, rfl⟩
  rw [← hr0] at HST
  have HR := Lib.hid (show syncD namedD ⟨l, fuse⟩ name = r from hr0.symm)
  rw [HR.out]
  obtain ⟨⟨fl, fz⟩, er⟩ := r
  have HGR := Lib.hid (fun w' (h : Below W.heap.size W w') => blk_below gr h)
  have HBW := Lib.hid hbW
  have HSZ := Lib.hid hsz
  clear hr hr0 gr hbW hsz n1
  obtain ⟨c0, c1, z0, z1⟩ := cell_of_two g0
  clear g0
  go_enter Try.func41, Try.ntmps41
  go_wp2_with fail
  (with_reducible refine HST.out.mono ?_)
  rintro e w1 ⟨v', rfl, hrd, hb⟩
  obtain ⟨ao2, cp2, rfl⟩ := rd_form hrd
  have HB1 := Lib.hid hb
  have HRD := Lib.hid hrd
  clear hb hrd c0 c1 z0 z1 hW HST
  obtain ⟨d0, d1, y0, y1⟩ := cell_of_two (HGR.out _ HB1.out)
  go_wp2_with fail
  have hgf := two_setCell1 (u := .int .i64 fz) (two_setCell0 (u := .slice ao2 fl.length cp2) (HGR.out _ HB1.out))
  obtain ⟨e0, e1, _, _⟩ := cell_of_two hgf
  refine bodyPost_ret (v := .tuple #[.agg #[.slice ao2 fl.length cp2, .int .i64 fz], .int .i64 er]) ?_ rfl ⟨_, rfl, ?_, ?_⟩
  · simp [results, Try.f41, go_sem, e0, e1]
  · exact rdF_upd HRD.out (set2_upd _ _) (no_str (HGR.out _ HB1.out))
  · exact set2_below (HBW.out.trans (HB1.out.mono HBW.out.size)) (by omega) _ _
set_option maxRecDepth 100000 in
set_option maxHeartbeats 3200000 in
theorem remove_any (l : List Fil) (fuse : Int) (hfu : -9223372036854775808 ≤ fuse ∧ fuse ≤ 9223372036854775807) (v : Value) (w : World) (hr : rdF w v l) (name : ByteArray) :
    Calls Try.prog 22 #[.agg #[v, .int .i64 fuse], .string name] w (RetD w (removeD namedD ⟨l, fuse⟩ name)) := by
  obtain ⟨ao, cp, rfl⟩ := rd_form hr
  obtain ⟨W, hW⟩ : ∃ W, ((w.alloc (.cells #[.slice ao l.length cp, .int .i64 fuse] 30)).alloc (.cells #[.string name] 9)).alloc (.cells #[.slice none 0 0, .int .i64 0] 30) = W := ⟨_, rfl⟩
  have hbW : Below w.heap.size w W := by rw [← hW]; exact (((Below.refl _ _).alloc (Nat.le_refl _) _).alloc (by simp <;> omega) _).alloc (by simp <;> omega) _
  have hsz : W.heap.size = w.heap.size + 3 := by rw [← hW]; simp
  have g0 : W.heap[w.heap.size]? = some (.cells #[.slice ao l.length cp, .int .i64 fuse] 30 (0, 0)) := by rw [← hW]; exact heap_old (heap_old (heap_alloc_new _ _))
  have n1 : W.cell? ⟨w.heap.size + 1, 0, none⟩ = some (.string name) := by rw [← hW]; exact cell_one (heap_old (heap_new (by simp)))
  have gr : W.heap[w.heap.size + 2]? = some (.cells #[.slice none 0 0, .int .i64 0] 30 (0, 0)) := by rw [← hW]; exact heap_new (by simp)
  have HST := Lib.hid (step_any l fuse hfu (removeO name) (.slice ao l.length cp) W (hr.below hbW) 42 #[.pointer (some ⟨w.heap.size + 1, 0, none⟩)] (enters_of Try.func42 (by kernel_rfl) rfl) (fun hg => removeC W l name _ hg n1))
  obtain ⟨r, hr0⟩ : ∃ r, r = stepD namedD ⟨l, fuse⟩ (removeO name) := ⟨_, rfl⟩
  rw [← hr0] at HST
  have HR := Lib.hid (show removeD namedD ⟨l, fuse⟩ name = r from hr0.symm)
  rw [HR.out]
  obtain ⟨⟨fl, fz⟩, er⟩ := r
  have HGR := Lib.hid (fun w' (h : Below W.heap.size W w') => blk_below gr h)
  have HBW := Lib.hid hbW
  have HSZ := Lib.hid hsz
  clear hr hr0 gr hbW hsz n1
  obtain ⟨c0, c1, z0, z1⟩ := cell_of_two g0
  clear g0
  go_enter Try.func22, Try.ntmps22
  go_wp2_with fail
  (with_reducible refine HST.out.mono ?_)
  rintro e w1 ⟨v', rfl, hrd, hb⟩
  obtain ⟨ao2, cp2, rfl⟩ := rd_form hrd
  have HB1 := Lib.hid hb
  have HRD := Lib.hid hrd
  clear hb hrd c0 c1 z0 z1 hW HST
  obtain ⟨d0, d1, y0, y1⟩ := cell_of_two (HGR.out _ HB1.out)
  go_wp2_with fail
  have hgf := two_setCell1 (u := .int .i64 fz) (two_setCell0 (u := .slice ao2 fl.length cp2) (HGR.out _ HB1.out))
  obtain ⟨e0, e1, _, _⟩ := cell_of_two hgf
  refine bodyPost_ret (v := .tuple #[.agg #[.slice ao2 fl.length cp2, .int .i64 fz], .int .i64 er]) ?_ rfl ⟨_, rfl, ?_, ?_⟩
  · simp [results, Try.f22, go_sem, e0, e1]
  · exact rdF_upd HRD.out (set2_upd _ _) (no_str (HGR.out _ HB1.out))
  · exact set2_below (HBW.out.trans (HB1.out.mono HBW.out.size)) (by omega) _ _
set_option maxRecDepth 100000 in
set_option maxHeartbeats 3200000 in
theorem rename_any (l : List Fil) (fuse : Int) (hfu : -9223372036854775808 ≤ fuse ∧ fuse ≤ 9223372036854775807) (v : Value) (w : World) (hr : rdF w v l) (frm to : ByteArray) :
    Calls Try.prog 20 #[.agg #[v, .int .i64 fuse], .string frm, .string to] w (RetD w (renameD namedD ⟨l, fuse⟩ frm to)) := by
  obtain ⟨ao, cp, rfl⟩ := rd_form hr
  obtain ⟨W, hW⟩ : ∃ W, (((w.alloc (.cells #[.slice ao l.length cp, .int .i64 fuse] 30)).alloc (.cells #[.string frm] 9)).alloc (.cells #[.string to] 9)).alloc (.cells #[.slice none 0 0, .int .i64 0] 30) = W := ⟨_, rfl⟩
  have hbW : Below w.heap.size w W := by rw [← hW]; exact ((((Below.refl _ _).alloc (Nat.le_refl _) _).alloc (by simp <;> omega) _).alloc (by simp <;> omega) _).alloc (by simp <;> omega) _
  have hsz : W.heap.size = w.heap.size + 4 := by rw [← hW]; simp
  have g0 : W.heap[w.heap.size]? = some (.cells #[.slice ao l.length cp, .int .i64 fuse] 30 (0, 0)) := by rw [← hW]; exact heap_old (heap_old (heap_old (heap_alloc_new _ _)))
  have n1 : W.cell? ⟨w.heap.size + 1, 0, none⟩ = some (.string frm) := by rw [← hW]; exact cell_one (heap_old (heap_old (heap_new (by simp))))
  have n2 : W.cell? ⟨w.heap.size + 2, 0, none⟩ = some (.string to) := by rw [← hW]; exact cell_one (heap_old (heap_new (by simp)))
  have gr : W.heap[w.heap.size + 3]? = some (.cells #[.slice none 0 0, .int .i64 0] 30 (0, 0)) := by rw [← hW]; exact heap_new (by simp)
  have HST := Lib.hid (step_any l fuse hfu (renameO namedD frm to) (.slice ao l.length cp) W (hr.below hbW) 39 #[.pointer (some ⟨w.heap.size + 2, 0, none⟩), .pointer (some ⟨w.heap.size + 1, 0, none⟩)] (enters_of Try.func39 (by kernel_rfl) rfl) (fun hg => renameC W l frm to _ _ hg n2 n1))
  obtain ⟨r, hr0⟩ : ∃ r, r = stepD namedD ⟨l, fuse⟩ (renameO namedD frm to) := ⟨_, rfl⟩
  rw [← hr0] at HST
  have HR := Lib.hid (show renameD namedD ⟨l, fuse⟩ frm to = r from hr0.symm)
  rw [HR.out]
  obtain ⟨⟨fl, fz⟩, er⟩ := r
  have HGR := Lib.hid (fun w' (h : Below W.heap.size W w') => blk_below gr h)
  have HBW := Lib.hid hbW
  have HSZ := Lib.hid hsz
  clear hr hr0 gr hbW hsz n1 n2
  obtain ⟨c0, c1, z0, z1⟩ := cell_of_two g0
  clear g0
  go_enter Try.func20, Try.ntmps20
  go_wp2_with fail
  (with_reducible refine HST.out.mono ?_)
  rintro e w1 ⟨v', rfl, hrd, hb⟩
  obtain ⟨ao2, cp2, rfl⟩ := rd_form hrd
  have HB1 := Lib.hid hb
  have HRD := Lib.hid hrd
  clear hb hrd c0 c1 z0 z1 hW HST
  obtain ⟨d0, d1, y0, y1⟩ := cell_of_two (HGR.out _ HB1.out)
  go_wp2_with fail
  have hgf := two_setCell1 (u := .int .i64 fz) (two_setCell0 (u := .slice ao2 fl.length cp2) (HGR.out _ HB1.out))
  obtain ⟨e0, e1, _, _⟩ := cell_of_two hgf
  refine bodyPost_ret (v := .tuple #[.agg #[.slice ao2 fl.length cp2, .int .i64 fz], .int .i64 er]) ?_ rfl ⟨_, rfl, ?_, ?_⟩
  · simp [results, Try.f20, go_sem, e0, e1]
  · exact rdF_upd HRD.out (set2_upd _ _) (no_str (HGR.out _ HB1.out))
  · exact set2_below (HBW.out.trans (HB1.out.mono HBW.out.size)) (by omega) _ _
end Go.Proofs.Ytnggcldpojebkaa
