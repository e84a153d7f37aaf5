/- The closures of package disk's Remove and Sync, and these. -/
import Derived.Test.YtnggcldpojebkaaDisk4
namespace Go.Proofs.Ytnggcldpojebkaa
open Go.RowKit
set_option linter.unusedVariables false
set_option linter.unusedSimpArgs false

theorem fvs_set {l : List Fil} {k : Nat} {f : Fil} (hk : l[k]? = some f) (g : Fil) : (((fvs l).set (k * 3) (.string g.name)).set (k * 3 + 1) (.string g.safe)).set (k * 3 + 2) (.string g.tail) = fvs (l.set k g) := by
  induction l generalizing k with
  | nil => simp at hk
  | cons x l ih =>
    cases k with
    | zero => rfl
    | succ k =>
      have := ih (k := k) (by simpa using hk)
      rw [show (k + 1) * 3 = k * 3 + 1 + 1 + 1 by omega]
      show Value.string x.name :: Value.string x.safe :: Value.string x.tail :: (((fvs l).set (k * 3) _).set (k * 3 + 1) _).set (k * 3 + 2) _ = _
      rw [this]
      rfl
theorem fvs_same {l : List Fil} {k : Nat} {f : Fil} (hk : l[k]? = some f) : (fvs l).set (k * 3) (.string f.name) = fvs l ∧ (fvs l).set (k * 3 + 1) (.string f.safe) = fvs l := by
  have hl := (List.getElem?_eq_some_iff.1 hk).1
  have h := fvs_get l k hl
  rw [List.getD, hk] at h
  obtain ⟨h0, h1, _⟩ := h
  simp only [Option.getD_some] at h0 h1
  constructor
  · apply List.ext_getElem?
    intro i
    rw [List.getElem?_set]
    split
    · rename_i e; subst e
      split
      · exact h0.symm
      · rename_i hh; rw [List.getElem?_eq_none (by omega)]
    · rfl
  · apply List.ext_getElem?
    intro i
    rw [List.getElem?_set]
    split
    · rename_i e; subst e
      split
      · exact h1.symm
      · rename_i hh; rw [List.getElem?_eq_none (by omega)]
    · rfl
theorem set_parts {α : Type} : ∀ (l : List α) (k : Nat) (g : α), k < l.length → l.set k g = l.take k ++ g :: l.drop (k + 1)
  | [], k, g, h => by simp at h
  | x :: l, 0, g, _ => rfl
  | x :: l, k + 1, g, h => by
    have := set_parts l k g (by simpa using h)
    simp [this]
theorem fvs_put2 {l : List Fil} {k : Nat} {f : Fil} (hk : l[k]? = some f) (g : Fil) (hn : g.name = f.name) : ((fvs l).set (k * 3 + 1) (.string g.safe)).set (k * 3 + 2) (.string g.tail) = fvs (l.take k ++ g :: l.drop (k + 1)) := by
  have h := fvs_set hk g
  rw [hn, (fvs_same hk).1, set_parts l k g (List.getElem?_eq_some_iff.1 hk).1] at h
  exact h
theorem fvs_put1 {l : List Fil} {k : Nat} {f : Fil} (hk : l[k]? = some f) (g : Fil) (hn : g.name = f.name) (hs : g.safe = f.safe) : (fvs l).set (k * 3 + 2) (.string g.tail) = fvs (l.take k ++ g :: l.drop (k + 1)) := by
  have h := fvs_put2 hk g hn
  rw [hs, (fvs_same hk).2] at h
  exact h
theorem own_set {w : World} {base : Nat} {e : TypeId} {size g n cap : Nat} {xs : List Value} (h : w.ownsRow base e size (.slice (some ⟨g, 0, none⟩) n cap) n xs) (i : Nat) (u : Value) : (w.setCell ⟨g, i, none⟩ u).ownsRow base e size (.slice (some ⟨g, 0, none⟩) n cap) n (xs.set i u) := by
  obtain ⟨h1, ⟨h2, _⟩ | ⟨g', cap', cur, hv, hbg, hg, hn, hm, hs, ht⟩⟩ := h
  · cases h2
  · simp only [Value.slice.injEq, Option.some.injEq, Addr.mk.injEq, and_true, true_and] at hv
    obtain ⟨rfl, rfl⟩ := hv
    have hset := setCell_eq_setRow w g i cur e (0, 0) u hg
    have hh := setRow_heap w g cur (cur.setIfInBounds i u) e (0, 0) hg
    rw [← hset] at hh
    refine ⟨by simpa using h1, .inr ⟨g, cap, _, rfl, hbg, hh, hn, hm, by simpa using hs, ?_⟩⟩
    rw [Array.toList_setIfInBounds, List.take_set, ht]
theorem own_cells {w : World} {base : Nat} {l : List Fil} {g cap k : Nat} {f : Fil} (h : w.ownsRow base 60 3 (.slice (some ⟨g, 0, none⟩) l.length cap) l.length (fvs l)) (hk : l[k]? = some f) :
    w.cell? ⟨g, k * 3, none⟩ = some (.string f.name) ∧ w.cell? ⟨g, k * 3 + 1, none⟩ = some (.string f.safe) ∧ w.cell? ⟨g, k * 3 + 2, none⟩ = some (.string f.tail) ∧ (∀ i, w.frozen? ⟨g, i, none⟩ = false) := by
  have hl := (List.getElem?_eq_some_iff.1 hk).1
  have hc := fvs_get l k hl
  rw [List.getD, hk] at hc
  obtain ⟨h1, ⟨h2, _⟩ | ⟨g', cap', cur, hv, hbg, hg, hn, hm, hs, ht⟩⟩ := h
  · cases h2
  · simp only [Value.slice.injEq, Option.some.injEq, Addr.mk.injEq, and_true, true_and] at hv
    obtain ⟨rfl, rfl⟩ := hv
    exact ⟨cells_of_row hg ht _ _ hc.1, cells_of_row hg ht _ _ hc.2.1, cells_of_row hg ht _ _ hc.2.2, fun i => by simp [World.frozen?, hg]⟩
theorem own_form {w : World} {base : Nat} {e : TypeId} {size : Nat} {v : Value} {n : Nat} {xs : List Value} (h : w.ownsRow base e size v n xs) (hn : 0 < n) : ∃ g cap, v = .slice (some ⟨g, 0, none⟩) n cap ∧ n ≤ cap := by
  obtain ⟨h1, ⟨_, h2⟩ | ⟨g, cap, cur, hv, hbg, hg, hnc, hm, hs, ht⟩⟩ := h
  · omega
  · exact ⟨g, cap, hv, hnc⟩

/-! Remove. -/
theorem removeO_1 {l : List Fil} {n : ByteArray} (h : fget n l = none) : removeO n l = (l, 7) := by unfold removeO; rw [h]
theorem removeO_2 {l : List Fil} {n : ByteArray} {f : Fil} (h : fget n l = some f) : removeO n l = (fdel n l, 0) := by unfold removeO; rw [h]
set_option maxRecDepth 100000 in
set_option maxHeartbeats 3200000 in
theorem removeC (w0 : World) (l : List Fil) (name : ByteArray) (nb : Nat) (hgood : GoodL namedD l) (hnb : w0.cell? ⟨nb, 0, none⟩ = some (.string name)) :
    CloOk 42 #[.pointer (some ⟨nb, 0, none⟩)] w0 l (removeO name l) := by
  intro W B gb v fu hB hwB hBW hge hG hO
  show Calls Try.prog _ #[.pointer (some ⟨gb, 0, none⟩), .pointer (some ⟨nb, 0, none⟩)] W _
  have hnlt := World.block_lt_of_cell? w0 _ hnb
  have n0 : W.cell? ⟨nb, 0, none⟩ = some (.string name) := (hB.cell (p := ⟨nb, 0, none⟩) hnlt).trans hnb
  have HNB := Lib.hid (fun w' (h : Below W.heap.size W w') => (h.cell (p := ⟨nb, 0, none⟩) (Nat.lt_of_lt_of_le hnlt hB.size)).trans n0)
  have HGB := Lib.hid (fun w' (h : Below W.heap.size W w') => blk_below hG h)
  have HOW := Lib.hid (fun w' (h : Below W.heap.size W w') => owns_below hO h)
  obtain ⟨ao, cp, rfl⟩ := rd_form (rdRow_of_owns hO)
  have HGD := Lib.hid hgood
  have hl := hgood.len
  have HFI := Lib.hid (find_any l name _ fu W.drew hgood.srt (rdF_owns hO) (by omega))
  obtain ⟨c0, c1, z0, z1⟩ := cell_of_two hG
  have HBW := Lib.hid hBW
  have HGE := Lib.hid hge
  obtain ⟨r, hr⟩ : ∃ r, r = removeO name l := ⟨_, rfl⟩
  rw [← hr]
  have HR := Lib.hid hr
  obtain ⟨k, hk⟩ : ∃ k, k = fidx name l := ⟨_, rfl⟩
  have HK := Lib.hid hk
  rw [← hk] at HFI
  clear hnlt hgood hr hk hwB hB hnb hBW hge
  have c0' : W.drew.cell? ⟨gb, 0, none⟩ = some (.slice ao l.length cp) := c0
  cases hg : fget name l with
  | none =>
    have hr1 := HR.out.trans (removeO_1 hg)
    subst hr1
    rw [hg] at HFI
    clear hg
    go_enter Try.func42, Try.ntmps42
    go_wp2_with fail
    refine Lone.wp_region_order [(0, false), (1, false), (2, false), (3, false), (4, true), (5, false), (6, false), (7, false), (8, false), (9, false)] (fun w' => w'.cell? ⟨gb, 0, none⟩ = some (.slice ao l.length cp) ∧ w'.cell? ⟨gb, 1, none⟩ = some (.int .i64 fu) ∧ w'.cell? ⟨nb, 0, none⟩ = some (.string name)) (by kernel_rfl) (by kernel_rfl) rfl (by kernel_rfl) (by intro _ _ d _ _ h; cases d <;> exact h) (⟨c0, c1, n0⟩) ?_; simp only [List.map_cons, List.map_nil, List.getElem?_toArray, List.getElem?_cons_zero, List.getElem?_cons_succ, Option.getD_some]
    repeat (first | (refine Lone.ro_q (by rfl) (v := ?_) ?_ ?_; rotate_left; (focus (intro w' hSw; (try dsimp only at hSw); go_simp; try with_reducible rfl)); simp only [Act.put, List.setIfInBounds_toArray, List.set_cons_zero, List.set_cons_succ]) | (refine Lone.ro_skip (by rfl) ?_; simp only [Act.put, List.setIfInBounds_toArray, List.set_cons_zero, List.set_cons_succ]))
    (refine Lone.ro_loud (by rfl) (fun K hK => ?_); go_simp)
    (with_reducible refine (HFI.out).mono ?_)
    rintro e w1 ⟨rfl, hb1⟩
    have HB1 := Lib.hid (show Below W.heap.size W w1 from (Below.refl _ W).drew.trans hb1)
    clear hb1 c0 c1 z0 z1 n0 HFI c0'
    obtain ⟨c0, c1, z0, z1⟩ := cell_of_two (HGB.out _ HB1.out)
    have n0 := HNB.out _ HB1.out
    (refine hK.out _ _ (fun w' => w'.cell? ⟨gb, 0, none⟩ = some (.slice ao l.length cp) ∧ w'.cell? ⟨gb, 1, none⟩ = some (.int .i64 fu) ∧ w'.cell? ⟨nb, 0, none⟩ = some (.string name)) (.inl fun _ h => h) (⟨c0, c1, n0⟩) ?_; clear hK K; try simp only [Act.put, List.setIfInBounds_toArray, List.set_cons_zero, List.set_cons_succ])
    repeat (first | (refine Lone.ro_q (by rfl) (v := ?_) ?_ ?_; rotate_left; (focus (intro w' hSw; (try dsimp only at hSw); go_simp; try with_reducible rfl)); simp only [Act.put, List.setIfInBounds_toArray, List.set_cons_zero, List.set_cons_succ]) | (refine Lone.ro_skip (by rfl) ?_; simp only [Act.put, List.setIfInBounds_toArray, List.set_cons_zero, List.set_cons_succ]))
    (refine Lone.ro_nil ?_; go_wp2_with fail)
    go_ret
    exact ⟨rfl, HB1.out.mono HBW.out, fun h => by cases h⟩
  | some f =>
    have hr1 := HR.out.trans (removeO_2 hg)
    subst hr1
    rw [hg] at HFI
    have HSOME := Lib.hid hg
    clear hg
    obtain ⟨h1, h2, h3, h4⟩ := at_some Fil.name HGD.out.srt HSOME.out
    rw [← show k = idxL Fil.name name l from HK.out] at h1 h2 h3 h4
    have hki : (k : Int) + 1 ≤ (l.length : Int) := by omega
    have hkw : IntKind.i64.wrap ((k : Int) + 1) = (k : Int) + 1 := by rw [IntKind.wrap_i64]; omega
    have HDE := Lib.hid (show fvs (l.take k) ++ fvs (l.drop (k + 1)) = fvs (fdel name l) by rw [← fvs_append, h4])
    have HDL := Lib.hid (show l.length - 1 = (fdel name l).length by have := len_del_some Fil.name HGD.out.srt HSOME.out; show _ = (delL Fil.name name l).length; omega)
    have HDEL := Lib.hid (fun w1 (hb : Below W.heap.size W w1) => fil_del l.length k _ (fvs l) w1 B ((k : Int) + 1) rfl h1 (HOW.out _ hb) (fvs_one l))
    clear h1 h2 h3 h4
    go_enter Try.func42, Try.ntmps42
    go_wp2_with fail
    refine Lone.wp_region_order [(0, false), (1, false), (2, false), (3, false), (4, true), (5, false), (6, false), (7, false), (8, false), (9, false)] (fun w' => w'.cell? ⟨gb, 0, none⟩ = some (.slice ao l.length cp) ∧ w'.cell? ⟨gb, 1, none⟩ = some (.int .i64 fu) ∧ w'.cell? ⟨nb, 0, none⟩ = some (.string name)) (by kernel_rfl) (by kernel_rfl) rfl (by kernel_rfl) (by intro _ _ d _ _ h; cases d <;> exact h) (⟨c0, c1, n0⟩) ?_; simp only [List.map_cons, List.map_nil, List.getElem?_toArray, List.getElem?_cons_zero, List.getElem?_cons_succ, Option.getD_some]
    repeat (first | (refine Lone.ro_q (by rfl) (v := ?_) ?_ ?_; rotate_left; (focus (intro w' hSw; (try dsimp only at hSw); go_simp; try with_reducible rfl)); simp only [Act.put, List.setIfInBounds_toArray, List.set_cons_zero, List.set_cons_succ]) | (refine Lone.ro_skip (by rfl) ?_; simp only [Act.put, List.setIfInBounds_toArray, List.set_cons_zero, List.set_cons_succ]))
    (refine Lone.ro_loud (by rfl) (fun K hK => ?_); go_simp)
    (with_reducible refine (HFI.out).mono ?_)
    rintro e w1 ⟨rfl, hb1⟩
    have HB1 := Lib.hid (show Below W.heap.size W w1 from (Below.refl _ W).drew.trans hb1)
    clear hb1 c0 c1 z0 z1 n0 HFI c0'
    obtain ⟨c0, c1, z0, z1⟩ := cell_of_two (HGB.out _ HB1.out)
    have n0 := HNB.out _ HB1.out
    (refine hK.out _ _ (fun w' => w'.cell? ⟨gb, 0, none⟩ = some (.slice ao l.length cp) ∧ w'.cell? ⟨gb, 1, none⟩ = some (.int .i64 fu) ∧ w'.cell? ⟨nb, 0, none⟩ = some (.string name)) (.inl fun _ h => h) (⟨c0, c1, n0⟩) ?_; clear hK K; try simp only [Act.put, List.setIfInBounds_toArray, List.set_cons_zero, List.set_cons_succ])
    repeat (first | (refine Lone.ro_q (by rfl) (v := ?_) ?_ ?_; rotate_left; (focus (intro w' hSw; (try dsimp only at hSw); go_simp; try with_reducible rfl)); simp only [Act.put, List.setIfInBounds_toArray, List.set_cons_zero, List.set_cons_succ]) | (refine Lone.ro_skip (by rfl) ?_; simp only [Act.put, List.setIfInBounds_toArray, List.set_cons_zero, List.set_cons_succ]))
    (refine Lone.ro_nil ?_; go_wp2_with fail)
    (with_reducible refine (HDEL.out _ HB1.out).mono ?_)
    rintro e w2 ⟨v', rfl, hO2, hU2, _⟩
    rw [show (3 : Nat) = 3 from rfl, fvs_take, fvs_drop, HDE.out, HDL.out] at hO2
    obtain ⟨ao2, cp2, rfl⟩ := rd_form (rdRow_of_owns hO2)
    have hG2 := blk_upd (HGB.out _ HB1.out) hU2 (fun e => owns_ne (e := 60) (t := 30) (HOW.out _ HB1.out) (HGB.out _ HB1.out) (by decide) e)
    have hB2 := (HB1.out.mono HBW.out).trans (hU2.below (Nat.le_trans HBW.out HB1.out.size) (fun k hk => ((HOW.out _ HB1.out).lt k hk).1))
    clear c0 c1 z0 z1 n0
    obtain ⟨c0, c1, z0, z1⟩ := cell_of_two hG2
    have HO2 := Lib.hid hO2
    have HG2 := Lib.hid hG2
    have HB2 := Lib.hid hB2
    clear hO2 hG2 hB2 hU2
    go_wp2_with fail
    go_ret
    exact ⟨rfl, HB2.out.setCell (p := ⟨gb, 0, none⟩) HGE.out _, fun _ => ⟨_, two_setCell0 HG2.out, owns_setCell HO2.out (owns_ne (e := 60) (t := 30) HO2.out HG2.out (by decide)) _⟩⟩

/-! Sync. -/
theorem syncO_1 {l : List Fil} {n : ByteArray} (h : fget n l = none) : syncO n l = (l, 7) := by unfold syncO; rw [h]
theorem syncO_2 {l : List Fil} {n : ByteArray} {f : Fil} (h : fget n l = some f) : syncO n l = (fput ⟨n, f.safe ++ f.tail, nilB⟩ l, 0) := by unfold syncO; rw [h]
set_option maxRecDepth 100000 in
set_option maxHeartbeats 3200000 in
theorem syncC (w0 : World) (l : List Fil) (name : ByteArray) (nb : Nat) (hgood : GoodL namedD l) (hnb : w0.cell? ⟨nb, 0, none⟩ = some (.string name)) :
    CloOk 52 #[.pointer (some ⟨nb, 0, none⟩)] w0 l (syncO name l) := by
  intro W B gb v fu hB hwB hBW hge hG hO
  show Calls Try.prog _ #[.pointer (some ⟨gb, 0, none⟩), .pointer (some ⟨nb, 0, none⟩)] W _
  have hnlt := World.block_lt_of_cell? w0 _ hnb
  have n0 : W.cell? ⟨nb, 0, none⟩ = some (.string name) := (hB.cell (p := ⟨nb, 0, none⟩) hnlt).trans hnb
  have HNB := Lib.hid (fun w' (h : Below W.heap.size W w') => (h.cell (p := ⟨nb, 0, none⟩) (Nat.lt_of_lt_of_le hnlt hB.size)).trans n0)
  have HGB := Lib.hid (fun w' (h : Below W.heap.size W w') => blk_below hG h)
  have HOW := Lib.hid (fun w' (h : Below W.heap.size W w') => owns_below hO h)
  obtain ⟨ao, cp, rfl⟩ := rd_form (rdRow_of_owns hO)
  have HGD := Lib.hid hgood
  have hl := hgood.len
  have HFI := Lib.hid (find_any l name _ fu W.drew hgood.srt (rdF_owns hO) (by omega))
  obtain ⟨c0, c1, z0, z1⟩ := cell_of_two hG
  have HBW := Lib.hid hBW
  have HGE := Lib.hid hge
  obtain ⟨r, hr⟩ : ∃ r, r = syncO name l := ⟨_, rfl⟩
  rw [← hr]
  have HR := Lib.hid hr
  obtain ⟨k, hk⟩ : ∃ k, k = fidx name l := ⟨_, rfl⟩
  have HK := Lib.hid hk
  rw [← hk] at HFI
  clear hnlt hgood hr hk hwB hB hnb hBW hge
  have c0' : W.drew.cell? ⟨gb, 0, none⟩ = some (.slice ao l.length cp) := c0
  cases hg : fget name l with
  | none =>
    have hr1 := HR.out.trans (syncO_1 hg)
    subst hr1
    rw [hg] at HFI
    clear hg
    go_enter Try.func52, Try.ntmps52
    go_wp2_with fail
    refine Lone.wp_region_order [(0, false), (1, false), (2, false), (3, false), (4, true), (5, false), (6, false), (7, false), (8, false), (9, false)] (fun w' => w'.cell? ⟨gb, 0, none⟩ = some (.slice ao l.length cp) ∧ w'.cell? ⟨gb, 1, none⟩ = some (.int .i64 fu) ∧ w'.cell? ⟨nb, 0, none⟩ = some (.string name)) (by kernel_rfl) (by kernel_rfl) rfl (by kernel_rfl) (by intro _ _ d _ _ h; cases d <;> exact h) (⟨c0, c1, n0⟩) ?_; simp only [List.map_cons, List.map_nil, List.getElem?_toArray, List.getElem?_cons_zero, List.getElem?_cons_succ, Option.getD_some]
    repeat (first | (refine Lone.ro_q (by rfl) (v := ?_) ?_ ?_; rotate_left; (focus (intro w' hSw; (try dsimp only at hSw); go_simp; try with_reducible rfl)); simp only [Act.put, List.setIfInBounds_toArray, List.set_cons_zero, List.set_cons_succ]) | (refine Lone.ro_skip (by rfl) ?_; simp only [Act.put, List.setIfInBounds_toArray, List.set_cons_zero, List.set_cons_succ]))
    (refine Lone.ro_loud (by rfl) (fun K hK => ?_); go_simp)
    (with_reducible refine (HFI.out).mono ?_)
    rintro e w1 ⟨rfl, hb1⟩
    have HB1 := Lib.hid (show Below W.heap.size W w1 from (Below.refl _ W).drew.trans hb1)
    clear hb1 c0 c1 z0 z1 n0 HFI c0'
    obtain ⟨c0, c1, z0, z1⟩ := cell_of_two (HGB.out _ HB1.out)
    have n0 := HNB.out _ HB1.out
    (refine hK.out _ _ (fun w' => w'.cell? ⟨gb, 0, none⟩ = some (.slice ao l.length cp) ∧ w'.cell? ⟨gb, 1, none⟩ = some (.int .i64 fu) ∧ w'.cell? ⟨nb, 0, none⟩ = some (.string name)) (.inl fun _ h => h) (⟨c0, c1, n0⟩) ?_; clear hK K; try simp only [Act.put, List.setIfInBounds_toArray, List.set_cons_zero, List.set_cons_succ])
    repeat (first | (refine Lone.ro_q (by rfl) (v := ?_) ?_ ?_; rotate_left; (focus (intro w' hSw; (try dsimp only at hSw); go_simp; try with_reducible rfl)); simp only [Act.put, List.setIfInBounds_toArray, List.set_cons_zero, List.set_cons_succ]) | (refine Lone.ro_skip (by rfl) ?_; simp only [Act.put, List.setIfInBounds_toArray, List.set_cons_zero, List.set_cons_succ]))
    (refine Lone.ro_nil ?_; go_wp2_with fail)
    go_ret
    exact ⟨rfl, HB1.out.mono HBW.out, fun h => by cases h⟩
  | some f =>
    have hr1 := HR.out.trans (syncO_2 hg)
    subst hr1
    rw [hg] at HFI
    have HSOME := Lib.hid hg
    clear hg
    obtain ⟨h1, h2, h3, h4⟩ := at_some Fil.name HGD.out.srt HSOME.out
    rw [← show k = idxL Fil.name name l from HK.out] at h1 h2 h3 h4
    obtain ⟨g, cp', hv, hcp⟩ := own_form (HOW.out _ (Below.refl _ W)) (by omega)
    simp only [Value.slice.injEq, true_and] at hv
    obtain ⟨rfl, rfl⟩ := hv
    have hki : (k : Int) < (l.length : Int) := by omega
    have H2 := Lib.hid h2
    have H3 := Lib.hid h3
    clear h2 h3 h4
    go_enter Try.func52, Try.ntmps52
    go_wp2_with fail
    refine Lone.wp_region_order [(0, false), (1, false), (2, false), (3, false), (4, true), (5, false), (6, false), (7, false), (8, false), (9, false)] (fun w' => w'.cell? ⟨gb, 0, none⟩ = some (.slice (some ⟨g, 0, none⟩) l.length cp) ∧ w'.cell? ⟨gb, 1, none⟩ = some (.int .i64 fu) ∧ w'.cell? ⟨nb, 0, none⟩ = some (.string name)) (by kernel_rfl) (by kernel_rfl) rfl (by kernel_rfl) (by intro _ _ d _ _ h; cases d <;> exact h) (⟨c0, c1, n0⟩) ?_; simp only [List.map_cons, List.map_nil, List.getElem?_toArray, List.getElem?_cons_zero, List.getElem?_cons_succ, Option.getD_some]
    repeat (first | (refine Lone.ro_q (by rfl) (v := ?_) ?_ ?_; rotate_left; (focus (intro w' hSw; (try dsimp only at hSw); go_simp; try with_reducible rfl)); simp only [Act.put, List.setIfInBounds_toArray, List.set_cons_zero, List.set_cons_succ]) | (refine Lone.ro_skip (by rfl) ?_; simp only [Act.put, List.setIfInBounds_toArray, List.set_cons_zero, List.set_cons_succ]))
    (refine Lone.ro_loud (by rfl) (fun K hK => ?_); go_simp)
    (with_reducible refine (HFI.out).mono ?_)
    rintro e w1 ⟨rfl, hb1⟩
    have HB1 := Lib.hid (show Below W.heap.size W w1 from (Below.refl _ W).drew.trans hb1)
    clear hb1 c0 c1 z0 z1 n0 HFI c0'
    obtain ⟨c0, c1, z0, z1⟩ := cell_of_two (HGB.out _ HB1.out)
    have n0 := HNB.out _ HB1.out
    (refine hK.out _ _ (fun w' => w'.cell? ⟨gb, 0, none⟩ = some (.slice (some ⟨g, 0, none⟩) l.length cp) ∧ w'.cell? ⟨gb, 1, none⟩ = some (.int .i64 fu) ∧ w'.cell? ⟨nb, 0, none⟩ = some (.string name)) (.inl fun _ h => h) (⟨c0, c1, n0⟩) ?_; clear hK K; try simp only [Act.put, List.setIfInBounds_toArray, List.set_cons_zero, List.set_cons_succ])
    repeat (first | (refine Lone.ro_q (by rfl) (v := ?_) ?_ ?_; rotate_left; (focus (intro w' hSw; (try dsimp only at hSw); go_simp; try with_reducible rfl)); simp only [Act.put, List.setIfInBounds_toArray, List.set_cons_zero, List.set_cons_succ]) | (refine Lone.ro_skip (by rfl) ?_; simp only [Act.put, List.setIfInBounds_toArray, List.set_cons_zero, List.set_cons_succ]))
    (refine Lone.ro_nil ?_; go_wp2_with fail)
    have HO1 := Lib.hid (HOW.out _ HB1.out)
    obtain ⟨s0, s1, s2, sf⟩ := own_cells HO1.out H2.out
    have sz := HGD.out.size f (List.mem_of_getElem? H2.out)
    have sf1 := sf (k * 3 + 1)
    have sf2 := sf (k * 3 + 2)
    go_region
    have HUP := Lib.hid (((Upd.refl (· = g) w1).setCell (a := ⟨g, k * 3 + 1, none⟩) (.inl rfl) (.string (f.safe ++ f.tail))).setCell (a := ⟨g, k * 3 + 2, none⟩) (.inl rfl) (.string ⟨#[]⟩)).drew
    have hgB : B ≤ g := (HO1.out.lt g rfl).1
    have HGN := Lib.hid (show gb ≠ g from fun e => owns_ne (e := 60) (t := 30) HO1.out (HGB.out _ HB1.out) (by decide) (by rw [e]; rfl))
    have HOF := Lib.hid (own_set (own_set HO1.out (k * 3 + 1) (.string (f.safe ++ f.tail))) (k * 3 + 2) (.string ⟨#[]⟩)).drew
    clear HO1 s0 s1 s2 sf sf1 sf2 sz
    go_wp2_with fail
    go_ret
    refine ⟨rfl, (HB1.out.mono HBW.out).trans (HUP.out.below (Nat.le_trans HBW.out HB1.out.size) (fun i hi => by rw [hi]; exact hgB)), fun _ => ⟨_, blk_upd (HGB.out _ HB1.out) HUP.out HGN.out, ?_⟩⟩
    have h := HOF.out
    rw [show (⟨#[]⟩ : ByteArray) = nilB from rfl, fvs_put2 H2.out ⟨name, f.safe ++ f.tail, nilB⟩ ((getL_some Fil.name HSOME.out).2.symm), H3.out ⟨name, f.safe ++ f.tail, nilB⟩ rfl] at h
    have hln := len_put_some Fil.name (f := ⟨name, f.safe ++ f.tail, nilB⟩) HGD.out.srt HSOME.out
    show World.ownsRow _ B 60 3 _ (putL Fil.name _ l).length (fvs (putL Fil.name _ l))
    rw [hln]
    exact h
end Go.Proofs.Ytnggcldpojebkaa
