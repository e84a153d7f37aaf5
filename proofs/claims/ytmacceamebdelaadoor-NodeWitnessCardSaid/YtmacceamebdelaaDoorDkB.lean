/- Texts put together: Disk6 Disk7 Disk8 Disk9 Disk10. -/
import Derived.Test.YtmacceamebdelaaDoorDkA
import Derived.Deep.RegionWith
import Derived.Test.YtmacceamebdelaaDoorBas
import Derived.BigRegion
/-! Disk6 -/
namespace Go.Proofs.YtmacceamebdelaaDoor
open Go.RowKit
set_option linter.unusedVariables false
set_option linter.unusedSimpArgs false

theorem take_mid {α : Type} {l : List α} {k : Nat} (hk : k ≤ l.length) {x : α} {r : List α} : (l.take k ++ x :: r).take k = l.take k := by
  have h : (l.take k).length = k := by simp [Nat.min_eq_left hk]
  conv => lhs; arg 1; rw [← h]
  exact List.take_left
theorem drop_mid {α : Type} {l : List α} {k : Nat} (hk : k ≤ l.length) {x : α} {r : List α} : (l.take k ++ x :: r).drop (k + 1) = r := by
  have h : (l.take k).length = k := by simp [Nat.min_eq_left hk]
  rw [show k + 1 = (l.take k).length + 1 by omega, List.drop_append]
  simp
theorem mid_get {α : Type} {l : List α} {k : Nat} (hk : k ≤ l.length) {x : α} {r : List α} : (l.take k ++ x :: r)[k]? = some x := by
  have h : (l.take k).length = k := by simp [Nat.min_eq_left hk]
  rw [List.getElem?_append_right (by omega), h, Nat.sub_self]
  rfl
theorem three_one (a b c : ByteArray) : ∀ u ∈ (#[.string a, .string b, .string c] : Array Value).toList, u.oneCell' = true := by
  intro u hu
  simp at hu
  rcases hu with rfl | rfl | rfl <;> rfl
theorem nil_app (s : ByteArray) : nilB ++ s = s := by
  apply ByteArray.ext
  simp [nilB]
theorem writeO_1 {l : List Fil} {n s : ByteArray} (h : namedD n = false) : writeO namedD n s l = (l, 2) := by unfold writeO; rw [if_pos h]
theorem writeO_2 {l : List Fil} {n s : ByteArray} (h : namedD n = true) (h2 : fget n l = none) (h3 : 400 ≤ l.length) : writeO namedD n s l = (l, 6) := by
  unfold writeO; rw [if_neg (by rw [h]; decide), h2]; simp only; rw [if_pos h3]
theorem writeO_3 {l : List Fil} {n s : ByteArray} (h : namedD n = true) (h2 : fget n l = none) (h3 : ¬ 400 ≤ l.length) (h4 : 1048576 < s.size) : writeO namedD n s l = (l, 1) := by
  unfold writeO; rw [if_neg (by rw [h]; decide), h2]; simp only; rw [if_neg h3, if_pos h4]
theorem writeO_4 {l : List Fil} {n s : ByteArray} (h : namedD n = true) (h2 : fget n l = none) (h3 : ¬ 400 ≤ l.length) (h4 : ¬ 1048576 < s.size) : writeO namedD n s l = (fput ⟨n, nilB, s⟩ l, 0) := by
  unfold writeO; rw [if_neg (by rw [h]; decide), h2]; simp only; rw [if_neg h3, if_neg h4]
theorem writeO_5 {l : List Fil} {n s : ByteArray} {f : Fil} (h : namedD n = true) (h2 : fget n l = some f) (h3 : 1048576 < s.size + f.safe.size + f.tail.size) : writeO namedD n s l = (l, 1) := by
  unfold writeO; rw [if_neg (by rw [h]; decide), h2]; simp only; rw [if_pos h3]
theorem writeO_6 {l : List Fil} {n s : ByteArray} {f : Fil} (h : namedD n = true) (h2 : fget n l = some f) (h3 : ¬ 1048576 < s.size + f.safe.size + f.tail.size) : writeO namedD n s l = (fput ⟨n, f.safe, f.tail ++ s⟩ l, 0) := by
  unfold writeO; rw [if_neg (by rw [h]; decide), h2]; simp only; rw [if_neg h3]
set_option maxRecDepth 100000 in
set_option maxHeartbeats 3200000 in
theorem writeC (w0 : World) (l : List Fil) (name s : ByteArray) (nb sb : Nat) (hgood : GoodL namedD l) (hnb : w0.cell? ⟨nb, 0, none⟩ = some (.string name)) (hsb : w0.cell? ⟨sb, 0, none⟩ = some (.string s)) :
    CloOk 56 #[.pointer (some ⟨nb, 0, none⟩), .pointer (some ⟨sb, 0, none⟩)] w0 l (writeO namedD name s l) := by
  intro W B gb v fu hB hwB hBW hge hG hO
  show Calls Tryd.prog _ #[.pointer (some ⟨gb, 0, none⟩), .pointer (some ⟨nb, 0, none⟩), .pointer (some ⟨sb, 0, none⟩)] W _
  have hnlt := World.block_lt_of_cell? w0 _ hnb
  have n0 : W.cell? ⟨nb, 0, none⟩ = some (.string name) := (hB.cell (p := ⟨nb, 0, none⟩) hnlt).trans hnb
  have HNB := Lib.hid (fun w' (h : Below W.heap.size W w') => (h.cell (p := ⟨nb, 0, none⟩) (Nat.lt_of_lt_of_le hnlt hB.size)).trans n0)
  have HNBB := Lib.hid (fun w' (h : Below B W w') => (h.cell (p := ⟨nb, 0, none⟩) (Nat.lt_of_lt_of_le hnlt hwB)).trans n0)
  have hslt := World.block_lt_of_cell? w0 _ hsb
  have HSB := Lib.hid (fun w' (h : Below B W w') => (h.cell (p := ⟨sb, 0, none⟩) (Nat.lt_of_lt_of_le hslt hwB)).trans ((hB.cell (p := ⟨sb, 0, none⟩) hslt).trans hsb))
  have HGB := Lib.hid (fun w' (h : Below W.heap.size W w') => blk_below hG h)
  have HOW := Lib.hid (fun w' (h : Below W.heap.size W w') => owns_below hO h)
  obtain ⟨ao, cp, rfl⟩ := rd_form (rdRow_of_owns hO)
  have HGD := Lib.hid hgood
  have hl := hgood.len
  have HFI := Lib.hid (fun w' (h : Below W.heap.size W w') => find_any l name _ fu w' hgood.srt (rdF_owns (HOW.out _ h)) (by omega))
  have HNM := Lib.hid (namedD_any name W)
  obtain ⟨c0, c1, z0, z1⟩ := cell_of_two hG
  have HBW := Lib.hid hBW
  have HGE := Lib.hid hge
  obtain ⟨r, hr⟩ : ∃ r, r = writeO namedD name s l := ⟨_, rfl⟩
  rw [← hr]
  have HR := Lib.hid hr
  obtain ⟨k, hk⟩ : ∃ k, k = fidx name l := ⟨_, rfl⟩
  have HK := Lib.hid hk
  rw [← hk] at HFI
  obtain ⟨nm, hnm⟩ : ∃ nm, nm = namedD name := ⟨_, rfl⟩
  rw [← hnm] at HNM
  have HNMD := Lib.hid hnm.symm
  clear hnlt hgood hr hk hwB hB hnb hBW hge hslt hsb hnm
  go_enter Tryd.func56, Tryd.ntmps56
  go_wp2_with fail
  (with_reducible refine HNM.out.mono ?_)
  rintro e wn ⟨rfl, hbn⟩
  have HBN := Lib.hid hbn
  clear hbn c0 c1 z0 z1 n0 HNM
  obtain ⟨c0, c1, z0, z1⟩ := cell_of_two (HGB.out _ HBN.out)
  have n0 := HNB.out _ HBN.out
  cases nm with
  | false =>
    have hr1 := HR.out.trans (writeO_1 HNMD.out)
    subst hr1
    go_wp2_with fail
    go_ret
    first | exact ⟨rfl, HBN.out.mono HBW.out, fun h => by cases h⟩ | exact ⟨rfl, HBN.out.mono HBW.out⟩
  | true =>
    cases hg : fget name l with
    | none =>
      rw [hg] at HFI
      obtain ⟨hkl, hput⟩ := at_none Fil.name HGD.out.srt hg
      rw [← show k = idxL Fil.name name l from HK.out] at hkl hput
      have HNONE := Lib.hid hg
      have HPUT := Lib.hid hput
      clear hg hput
      by_cases hfull : 400 ≤ l.length
      · have hr1 := HR.out.trans (writeO_2 HNMD.out HNONE.out hfull)
        subst hr1
        have hfi : decide ((400 : Int) ≤ (l.length : Int)) = true := decide_eq_true (by omega)
        go_wp2_with fail
        refine Lone.wp_region_order [(0, false), (1, false), (2, false), (3, false), (4, true), (5, false), (6, false), (7, false), (8, false), (9, false)] (fun w' => w'.cell? ⟨gb, 0, none⟩ = some (.slice ao l.length cp) ∧ w'.cell? ⟨gb, 1, none⟩ = some (.int .i64 fu) ∧ w'.cell? ⟨nb, 0, none⟩ = some (.string name)) (by kernel_rfl) (by kernel_rfl) rfl (by kernel_rfl) (by intro _ _ d _ _ h; cases d <;> exact h) (⟨c0, c1, n0⟩) ?_; simp only [List.map_cons, List.map_nil, List.getElem?_toArray, List.getElem?_cons_zero, List.getElem?_cons_succ, Option.getD_some]
        repeat (first | (refine Lone.ro_q (by rfl) (v := ?_) ?_ ?_; rotate_left; (focus (intro w' hSw; (try dsimp only at hSw); go_simp; try with_reducible rfl)); simp only [Act.put, List.setIfInBounds_toArray, List.set_cons_zero, List.set_cons_succ]) | (refine Lone.ro_skip (by rfl) ?_; simp only [Act.put, List.setIfInBounds_toArray, List.set_cons_zero, List.set_cons_succ]))
        (refine Lone.ro_loud (by rfl) (fun K hK => ?_); go_simp)
        (with_reducible refine (HFI.out _ (HBN.out).drew).mono ?_)
        rintro e w1 ⟨rfl, hb1⟩
        have HB1 := Lib.hid (show Below W.heap.size W w1 from (HBN.out).drew.trans (hb1.mono (HBN.out).size))
        clear hb1 c0 c1 z0 z1 n0
        obtain ⟨c0, c1, z0, z1⟩ := cell_of_two (HGB.out _ HB1.out)
        have n0 := HNB.out _ HB1.out
        (refine hK.out _ _ (fun w' => w'.cell? ⟨gb, 0, none⟩ = some (.slice ao l.length cp) ∧ w'.cell? ⟨gb, 1, none⟩ = some (.int .i64 fu) ∧ w'.cell? ⟨nb, 0, none⟩ = some (.string name)) (.inl fun _ h => h) (⟨c0, c1, n0⟩) ?_; clear hK K; try simp only [Act.put, List.setIfInBounds_toArray, List.set_cons_zero, List.set_cons_succ])
        repeat (first | (refine Lone.ro_q (by rfl) (v := ?_) ?_ ?_; rotate_left; (focus (intro w' hSw; (try dsimp only at hSw); go_simp; try with_reducible rfl)); simp only [Act.put, List.setIfInBounds_toArray, List.set_cons_zero, List.set_cons_succ]) | (refine Lone.ro_skip (by rfl) ?_; simp only [Act.put, List.setIfInBounds_toArray, List.set_cons_zero, List.set_cons_succ]))
        (refine Lone.ro_nil ?_; go_wp2_with fail)
        go_ret
        first | exact ⟨rfl, HB1.out.mono HBW.out, fun h => by cases h⟩ | exact ⟨rfl, HB1.out.mono HBW.out⟩
      · have hfi : decide ((400 : Int) ≤ (l.length : Int)) = false := decide_eq_false (by omega)
        have HFULL := Lib.hid hfull
        clear hfull
        go_wp2_with fail
        refine Lone.wp_region_order [(0, false), (1, false), (2, false), (3, false), (4, true), (5, false), (6, false), (7, false), (8, false), (9, false)] (fun w' => w'.cell? ⟨gb, 0, none⟩ = some (.slice ao l.length cp) ∧ w'.cell? ⟨gb, 1, none⟩ = some (.int .i64 fu) ∧ w'.cell? ⟨nb, 0, none⟩ = some (.string name)) (by kernel_rfl) (by kernel_rfl) rfl (by kernel_rfl) (by intro _ _ d _ _ h; cases d <;> exact h) (⟨c0, c1, n0⟩) ?_; simp only [List.map_cons, List.map_nil, List.getElem?_toArray, List.getElem?_cons_zero, List.getElem?_cons_succ, Option.getD_some]
        repeat (first | (refine Lone.ro_q (by rfl) (v := ?_) ?_ ?_; rotate_left; (focus (intro w' hSw; (try dsimp only at hSw); go_simp; try with_reducible rfl)); simp only [Act.put, List.setIfInBounds_toArray, List.set_cons_zero, List.set_cons_succ]) | (refine Lone.ro_skip (by rfl) ?_; simp only [Act.put, List.setIfInBounds_toArray, List.set_cons_zero, List.set_cons_succ]))
        (refine Lone.ro_loud (by rfl) (fun K hK => ?_); go_simp)
        (with_reducible refine (HFI.out _ (HBN.out).drew).mono ?_)
        rintro e w1 ⟨rfl, hb1⟩
        have HB1 := Lib.hid (show Below W.heap.size W w1 from (HBN.out).drew.trans (hb1.mono (HBN.out).size))
        clear hb1 c0 c1 z0 z1 n0
        obtain ⟨c0, c1, z0, z1⟩ := cell_of_two (HGB.out _ HB1.out)
        have n0 := HNB.out _ HB1.out
        (refine hK.out _ _ (fun w' => w'.cell? ⟨gb, 0, none⟩ = some (.slice ao l.length cp) ∧ w'.cell? ⟨gb, 1, none⟩ = some (.int .i64 fu) ∧ w'.cell? ⟨nb, 0, none⟩ = some (.string name)) (.inl fun _ h => h) (⟨c0, c1, n0⟩) ?_; clear hK K; try simp only [Act.put, List.setIfInBounds_toArray, List.set_cons_zero, List.set_cons_succ])
        repeat (first | (refine Lone.ro_q (by rfl) (v := ?_) ?_ ?_; rotate_left; (focus (intro w' hSw; (try dsimp only at hSw); go_simp; try with_reducible rfl)); simp only [Act.put, List.setIfInBounds_toArray, List.set_cons_zero, List.set_cons_succ]) | (refine Lone.ro_skip (by rfl) ?_; simp only [Act.put, List.setIfInBounds_toArray, List.set_cons_zero, List.set_cons_succ]))
        (refine Lone.ro_nil ?_; go_wp2_with fail)
        have hbA : Below W.heap.size W (w1.alloc (.cells #[.string name, .string ⟨#[]⟩, .string ⟨#[]⟩] 92)).drew := (HB1.out.alloc HB1.out.size (.cells #[.string name, .string ⟨#[]⟩, .string ⟨#[]⟩] 92)).drew
        have HBA := Lib.hid hbA
        have HVA := Lib.hid (show (w1.alloc (.cells #[.string name, .string ⟨#[]⟩, .string ⟨#[]⟩] 92)).drew.heap[w1.heap.size]? = some (.cells #[.string name, .string ⟨#[]⟩, .string ⟨#[]⟩] 92 (0, 0)) from heap_alloc_new w1 _)
        have HV1 := Lib.hid (show ∀ u ∈ (#[.string name, .string ⟨#[]⟩, .string ⟨#[]⟩] : Array Value).toList, u.oneCell' = true from three_one _ _ _)
        have hne1 : (Value.slice ao l.length cp).ownBlock ≠ some w1.heap.size := fun e => absurd ((HOW.out _ HB1.out).lt _ e).2 (Nat.lt_irrefl _)
        have HINS := Lib.hid (fun (w' : World) (hb : Below W.heap.size W w') (hvb : w'.heap[w1.heap.size]? = some (.cells #[.string name, .string ⟨#[]⟩, .string ⟨#[]⟩] 92 (0, 0))) => fil_ins l.length k _ (fvs l) w' B w1.heap.size #[.string name, .string ⟨#[]⟩, .string ⟨#[]⟩] hkl (HOW.out _ hb) (fvs_one l) (Nat.le_trans HBW.out hb.size) hvb rfl HV1.out hne1 (by omega))
        have HB2F := Lib.hid (fun (w' w2 : World) (hb : Below W.heap.size W w') (hu : Upd (fun b => (Value.slice ao l.length cp).ownBlock = some b) w' w2) => (hb.mono HBW.out).trans (hu.below (Nat.le_trans HBW.out hb.size) (fun i hi => ((HOW.out _ hb).lt i hi).1)))
        have HG2F := Lib.hid (fun (w' w2 : World) (hb : Below W.heap.size W w') (hu : Upd (fun b => (Value.slice ao l.length cp).ownBlock = some b) w' w2) => blk_upd (HGB.out _ hb) hu (fun e => owns_ne (e := 92) (t := 26) (HOW.out _ hb) (HGB.out _ hb) (by decide) e))
        have c0a := (cell_of_two (HGB.out _ hbA)).1
        have n0a := HNB.out _ hbA
        clear hbA hne1
        go_region_with (go_at_call 57; refine (HINS.out _ ?_ ?_).mono ?_; exact HBA.out; exact HVA.out; rintro e w2 ⟨v', rfl, hO2, hU2⟩; obtain ⟨g, cp2, hv, hcp⟩ := own_form hO2 (Nat.succ_pos _); subst hv; have HB2 := Lib.hid (HB2F.out _ _ HBA.out hU2); have HG2 := Lib.hid (HG2F.out _ _ HBA.out hU2); clear c0 c1 z0 z1 n0 hU2 c0a n0a; obtain ⟨c0, c1, z0, z1⟩ := cell_of_two HG2.out; have HO2 := Lib.hid hO2; clear hO2)
        all_goals
          obtain ⟨x, hx⟩ : ∃ x : Fil, x = ⟨name, nilB, nilB⟩ := ⟨_, rfl⟩
          obtain ⟨L, hL⟩ : ∃ L, L = l.take k ++ x :: l.drop k := ⟨_, rfl⟩
          have HLL := Lib.hid (show L.length = l.length + 1 by rw [hL]; simp; omega)
          have HXK := Lib.hid (show L[k]? = some x by rw [hL]; exact mid_get hkl)
          have HXS := Lib.hid (show x.safe.size + x.tail.size ≤ 1048576 by rw [hx]; exact Nat.zero_le _)
          have HLO := Lib.hid (fun (h : 1048576 < s.size + x.safe.size + x.tail.size) => HR.out.trans (writeO_3 HNMD.out HNONE.out HFULL.out (by rw [hx] at h; exact h)))
          have HOK := Lib.hid (fun (h : ¬ 1048576 < s.size + x.safe.size + x.tail.size) => HR.out.trans (writeO_4 HNMD.out HNONE.out HFULL.out (by rw [hx] at h; exact h)))
          have HFV := Lib.hid (show fvs (L.take k ++ ⟨x.name, x.safe, x.tail ++ s⟩ :: L.drop (k + 1)) = fvs (fput ⟨name, nilB, s⟩ l) by rw [hL, take_mid hkl, drop_mid hkl, hx, show nilB ++ s = s from nil_app s]; exact congrArg fvs (HPUT.out ⟨name, nilB, s⟩ rfl))
          have HFL := Lib.hid (show (fput ⟨name, nilB, s⟩ l).length = L.length by rw [HLL.out]; exact len_put_none Fil.name (f := ⟨name, nilB, s⟩) HGD.out.srt HNONE.out)
          have HBC := Lib.hid (HB2.out.setCell (p := ⟨gb, 0, none⟩) HGE.out (.slice (some ⟨g, 0, none⟩) (l.length + 1) cp2))
          have HGC := Lib.hid (two_setCell0 (u := .slice (some ⟨g, 0, none⟩) (l.length + 1) cp2) HG2.out)
          have HOC := Lib.hid (show (w2.setCell ⟨gb, 0, none⟩ (.slice (some ⟨g, 0, none⟩) (l.length + 1) cp2)).ownsRow B 92 3 (.slice (some ⟨g, 0, none⟩) L.length cp2) L.length (fvs L) by
            have h := owns_setCell HO2.out (owns_ne (e := 92) (t := 26) HO2.out HG2.out (by decide)) (a := ⟨gb, 0, none⟩) (.slice (some ⟨g, 0, none⟩) (l.length + 1) cp2)
            rw [HLL.out, hL, fvs_append, show fvs (x :: l.drop k) = [Value.string name, .string ⟨#[]⟩, .string ⟨#[]⟩] ++ fvs (l.drop k) by rw [hx]; rfl, ← fvs_take, ← fvs_drop, ← List.append_assoc]
            exact h)
          have HSC := Lib.hid (HSB.out _ HBC.out)
          have hki : (k : Int) < ((l.length + 1 : Nat) : Int) := by omega
          have hki2 : (k : Int) < (l.length : Int) + 1 := by omega
          have hki3 : k < l.length + 1 := by omega
          obtain ⟨w3, hw3⟩ : ∃ w3, w2.setCell ⟨gb, 0, none⟩ (.slice (some ⟨g, 0, none⟩) (l.length + 1) cp2) = w3 := ⟨_, rfl⟩
          rw [hw3] at HBC HGC HOC HSC ⊢
          clear hx hL hw3 c0 c1 z0 z1 hcp HFI
          obtain ⟨c0, c1, z0, z1⟩ := cell_of_two HGC.out
          obtain ⟨s0, s1, s2, sf⟩ := own_cells HOC.out HXK.out
          have sf1 := sf (k * 3 + 1)
          have sf2 := sf (k * 3 + 2)
          have t0 := HSC.out
          have hxs := HXS.out
          have hw1 : IntKind.i64.wrap (1048576 - (x.safe.size : Int)) = 1048576 - (x.safe.size : Int) := by rw [IntKind.wrap_i64]; omega
          have hw2 : IntKind.i64.wrap (1048576 - (x.safe.size : Int) - (x.tail.size : Int)) = 1048576 - (x.safe.size : Int) - (x.tail.size : Int) := by rw [IntKind.wrap_i64]; omega
          clear sf hxs
          by_cases hlong : 1048576 < s.size + x.safe.size + x.tail.size
          · have hd : decide (1048576 - (x.safe.size : Int) - (x.tail.size : Int) < (s.size : Int)) = true := decide_eq_true (by omega)
            have hr1 := HLO.out hlong
            subst hr1
            clear hlong
            go_wp2_with fail
            go_region
            go_wp2_with fail
            go_ret
            first | exact ⟨rfl, HBC.out.drew, fun h => by cases h⟩ | exact ⟨rfl, HBC.out.drew⟩
          · have hd : decide (1048576 - (x.safe.size : Int) - (x.tail.size : Int) < (s.size : Int)) = false := decide_eq_false (by omega)
            have hr1 := HOK.out hlong
            subst hr1
            have hsum : (x.tail.size : Int) + (s.size : Int) ≤ 9223372036854775807 := by have := HXS.out; omega
            clear hlong
            go_wp2_with fail
            go_region
            go_wp2_with fail
            go_region
            go_wp2_with fail
            go_ret
            have HUP := Lib.hid ((Upd.refl (· = g) w3).setCell (a := ⟨g, k * 3 + 2, none⟩) (.inl rfl) (.string (x.tail ++ s)))
            have hgB : B ≤ g := (HOC.out.lt g rfl).1
            have HGN := Lib.hid (show gb ≠ g from fun e => owns_ne (e := 92) (t := 26) HOC.out HGC.out (by decide) (by rw [e]; rfl))
            have h := own_set HOC.out (k * 3 + 2) (.string (x.tail ++ s))
            rw [fvs_put1 HXK.out ⟨x.name, x.safe, x.tail ++ s⟩ rfl rfl, HFV.out] at h
            rw [HLL.out] at h HFL
            have hbf := HBC.out.trans (HUP.out.below (Nat.le_trans HBW.out HBC.out.size) (fun i hi => by rw [hi]; exact hgB))
            have hgf := blk_upd (S := fun i => i = g) HGC.out HUP.out HGN.out
            refine ⟨rfl, hbf.drew.drew, ?_⟩
            try intro _
            refine ⟨_, hgf, ?_⟩
            show World.ownsRow _ B 92 3 _ (fput ⟨name, nilB, s⟩ l).length (fvs (fput ⟨name, nilB, s⟩ l))
            rw [HFL.out]
            exact h
    | some f =>
      rw [hg] at HFI
      obtain ⟨h1, h2, h3, h4⟩ := at_some Fil.name HGD.out.srt hg
      rw [← show k = idxL Fil.name name l from HK.out] at h1 h2 h3 h4
      obtain ⟨g, cp', hv, hcp⟩ := own_form (HOW.out _ (Below.refl _ W)) (by omega)
      simp only [Value.slice.injEq, true_and] at hv
      obtain ⟨rfl, rfl⟩ := hv
      have hki : (k : Int) < (l.length : Int) := by omega
      have HXK := Lib.hid h2
      have HXS := Lib.hid (HGD.out.size f (List.mem_of_getElem? h2))
      have HLO := Lib.hid (fun (h : 1048576 < s.size + f.safe.size + f.tail.size) => HR.out.trans (writeO_5 HNMD.out hg h))
      have HOK := Lib.hid (fun (h : ¬ 1048576 < s.size + f.safe.size + f.tail.size) => HR.out.trans (writeO_6 HNMD.out hg h))
      have HFV := Lib.hid (show fvs (l.take k ++ ⟨f.name, f.safe, f.tail ++ s⟩ :: l.drop (k + 1)) = fvs (fput ⟨name, f.safe, f.tail ++ s⟩ l) by rw [(getL_some Fil.name hg).2, h3 ⟨name, f.safe, f.tail ++ s⟩ rfl])
      have HFL := Lib.hid (show (fput ⟨name, f.safe, f.tail ++ s⟩ l).length = l.length from len_put_some Fil.name (f := ⟨name, f.safe, f.tail ++ s⟩) HGD.out.srt hg)
      clear h2 h3 h4 hg
      go_wp2_with fail
      refine Lone.wp_region_order [(0, false), (1, false), (2, false), (3, false), (4, true), (5, false), (6, false), (7, false), (8, false), (9, false)] (fun w' => w'.cell? ⟨gb, 0, none⟩ = some (.slice (some ⟨g, 0, none⟩) l.length cp) ∧ w'.cell? ⟨gb, 1, none⟩ = some (.int .i64 fu) ∧ w'.cell? ⟨nb, 0, none⟩ = some (.string name)) (by kernel_rfl) (by kernel_rfl) rfl (by kernel_rfl) (by intro _ _ d _ _ h; cases d <;> exact h) (⟨c0, c1, n0⟩) ?_; simp only [List.map_cons, List.map_nil, List.getElem?_toArray, List.getElem?_cons_zero, List.getElem?_cons_succ, Option.getD_some]
      repeat (first | (refine Lone.ro_q (by rfl) (v := ?_) ?_ ?_; rotate_left; (focus (intro w' hSw; (try dsimp only at hSw); go_simp; try with_reducible rfl)); simp only [Act.put, List.setIfInBounds_toArray, List.set_cons_zero, List.set_cons_succ]) | (refine Lone.ro_skip (by rfl) ?_; simp only [Act.put, List.setIfInBounds_toArray, List.set_cons_zero, List.set_cons_succ]))
      (refine Lone.ro_loud (by rfl) (fun K hK => ?_); go_simp)
      (with_reducible refine (HFI.out _ (HBN.out).drew).mono ?_)
      rintro e w1 ⟨rfl, hb1⟩
      have HB1 := Lib.hid (show Below W.heap.size W w1 from (HBN.out).drew.trans (hb1.mono (HBN.out).size))
      clear hb1 c0 c1 z0 z1 n0
      obtain ⟨c0, c1, z0, z1⟩ := cell_of_two (HGB.out _ HB1.out)
      have n0 := HNB.out _ HB1.out
      (refine hK.out _ _ (fun w' => w'.cell? ⟨gb, 0, none⟩ = some (.slice (some ⟨g, 0, none⟩) l.length cp) ∧ w'.cell? ⟨gb, 1, none⟩ = some (.int .i64 fu) ∧ w'.cell? ⟨nb, 0, none⟩ = some (.string name)) (.inl fun _ h => h) (⟨c0, c1, n0⟩) ?_; clear hK K; try simp only [Act.put, List.setIfInBounds_toArray, List.set_cons_zero, List.set_cons_succ])
      repeat (first | (refine Lone.ro_q (by rfl) (v := ?_) ?_ ?_; rotate_left; (focus (intro w' hSw; (try dsimp only at hSw); go_simp; try with_reducible rfl)); simp only [Act.put, List.setIfInBounds_toArray, List.set_cons_zero, List.set_cons_succ]) | (refine Lone.ro_skip (by rfl) ?_; simp only [Act.put, List.setIfInBounds_toArray, List.set_cons_zero, List.set_cons_succ]))
      (refine Lone.ro_nil ?_; go_wp2_with fail)
      have HBC := Lib.hid (HB1.out.mono HBW.out)
      have HOC := Lib.hid (HOW.out _ HB1.out)
      have HGC := Lib.hid (HGB.out _ HB1.out)
      have HSC := Lib.hid (HSB.out _ HBC.out)
      clear c0 c1 z0 z1 n0 HFI
      obtain ⟨c0, c1, z0, z1⟩ := cell_of_two HGC.out
      obtain ⟨s0, s1, s2, sf⟩ := own_cells HOC.out HXK.out
      have sf1 := sf (k * 3 + 1)
      have sf2 := sf (k * 3 + 2)
      have t0 := HSC.out
      have hxs := HXS.out
      have hw1 : IntKind.i64.wrap (1048576 - (f.safe.size : Int)) = 1048576 - (f.safe.size : Int) := by rw [IntKind.wrap_i64]; omega
      have hw2 : IntKind.i64.wrap (1048576 - (f.safe.size : Int) - (f.tail.size : Int)) = 1048576 - (f.safe.size : Int) - (f.tail.size : Int) := by rw [IntKind.wrap_i64]; omega
      clear sf hxs
      by_cases hlong : 1048576 < s.size + f.safe.size + f.tail.size
      · have hd : decide (1048576 - (f.safe.size : Int) - (f.tail.size : Int) < (s.size : Int)) = true := decide_eq_true (by omega)
        have hr1 := HLO.out hlong
        subst hr1
        clear hlong
        go_wp2_with fail
        go_region
        go_wp2_with fail
        go_ret
        first | exact ⟨rfl, HBC.out.drew, fun h => by cases h⟩ | exact ⟨rfl, HBC.out.drew⟩
      · have hd : decide (1048576 - (f.safe.size : Int) - (f.tail.size : Int) < (s.size : Int)) = false := decide_eq_false (by omega)
        have hr1 := HOK.out hlong
        subst hr1
        have hsum : (f.tail.size : Int) + (s.size : Int) ≤ 9223372036854775807 := by have := HXS.out; omega
        clear hlong
        go_wp2_with fail
        go_region
        go_wp2_with fail
        go_region
        go_wp2_with fail
        go_ret
        have HUP := Lib.hid ((Upd.refl (· = g) w1).setCell (a := ⟨g, k * 3 + 2, none⟩) (.inl rfl) (.string (f.tail ++ s)))
        have hgB : B ≤ g := (HOC.out.lt g rfl).1
        have HGN := Lib.hid (show gb ≠ g from fun e => owns_ne (e := 92) (t := 26) HOC.out HGC.out (by decide) (by rw [e]; rfl))
        have h := own_set HOC.out (k * 3 + 2) (.string (f.tail ++ s))
        rw [fvs_put1 HXK.out ⟨f.name, f.safe, f.tail ++ s⟩ rfl rfl, HFV.out] at h
        skip
        have hbf := HBC.out.trans (HUP.out.below (Nat.le_trans HBW.out HBC.out.size) (fun i hi => by rw [hi]; exact hgB))
        have hgf := blk_upd (S := fun i => i = g) HGC.out HUP.out HGN.out
        refine ⟨rfl, hbf.drew.drew, ?_⟩
        try intro _
        refine ⟨_, hgf, ?_⟩
        show World.ownsRow _ B 92 3 _ (fput ⟨name, f.safe, f.tail ++ s⟩ l).length (fvs (fput ⟨name, f.safe, f.tail ++ s⟩ l))
        rw [HFL.out]
        exact h
end Go.Proofs.YtmacceamebdelaaDoor
/-! Disk7 -/
namespace Go.Proofs.YtmacceamebdelaaDoor
open Go.RowKit
set_option linter.unusedVariables false
set_option linter.unusedSimpArgs false

theorem renameO_1 {l : List Fil} {a n : ByteArray} (h : namedD n = false) : renameO namedD a n l = (l, 2) := by unfold renameO; rw [if_pos h]
theorem renameO_2 {l : List Fil} {a n : ByteArray} (h : namedD n = true) (h2 : fget a l = none) : renameO namedD a n l = (l, 7) := by
  unfold renameO; rw [if_neg (by rw [h]; decide), h2]
theorem renameO_3 {l : List Fil} {a n : ByteArray} {f : Fil} (h : namedD n = true) (h2 : fget a l = some f) : renameO namedD a n l = (fput ⟨n, f.safe, f.tail⟩ (fdel a l), 0) := by
  unfold renameO; rw [if_neg (by rw [h]; decide), h2]
theorem three_set0 {w : World} {g : Nat} {x y z u : Value} {t : TypeId} (h : w.heap[g]? = some (.cells #[x, y, z] t (0, 0))) : (w.setCell ⟨g, 0, none⟩ u).heap[g]? = some (.cells #[u, y, z] t (0, 0)) := by
  have hset := setCell_eq_setRow w g 0 #[x, y, z] t (0, 0) u h
  have hh := setRow_heap w g #[x, y, z] (#[x, y, z].setIfInBounds 0 u) t (0, 0) h
  rw [← hset] at hh
  exact hh
theorem lt_of_lt_own {w : World} {base : Nat} {e : TypeId} {size g n m cap : Nat} {xs : List Value} (h : w.ownsRow base e size (.slice (some ⟨g, 0, none⟩) n cap) m xs) : g < w.heap.size := (h.lt g rfl).2
theorem three_of {w : World} {b : Nat} {x y z : Value} {t : TypeId} (h : w.heap[b]? = some (.cells #[x, y, z] t (0, 0))) : w.cell? ⟨b, 0, none⟩ = some x ∧ w.cell? ⟨b, 1, none⟩ = some y ∧ w.cell? ⟨b, 2, none⟩ = some z := by
  refine ⟨?_, ?_, ?_⟩ <;> simp [World.cell?, h]
set_option maxRecDepth 100000 in
set_option maxHeartbeats 3200000 in
theorem renameC (w0 : World) (l : List Fil) (frm to : ByteArray) (tb ab : Nat) (hgood : GoodL namedD l) (htb : w0.cell? ⟨tb, 0, none⟩ = some (.string to)) (hab : w0.cell? ⟨ab, 0, none⟩ = some (.string frm)) :
    CloOk 59 #[.pointer (some ⟨tb, 0, none⟩), .pointer (some ⟨ab, 0, none⟩)] w0 l (renameO namedD frm to l) := by
  intro W B gb v fu hB hwB hBW hge hG hO
  show Calls Tryd.prog _ #[.pointer (some ⟨gb, 0, none⟩), .pointer (some ⟨tb, 0, none⟩), .pointer (some ⟨ab, 0, none⟩)] W _
  have htlt := World.block_lt_of_cell? w0 _ htb
  have n0 : W.cell? ⟨tb, 0, none⟩ = some (.string to) := (hB.cell (p := ⟨tb, 0, none⟩) htlt).trans htb
  have HTBB := Lib.hid (fun w' (h : Below B W w') => (h.cell (p := ⟨tb, 0, none⟩) (Nat.lt_of_lt_of_le htlt hwB)).trans n0)
  have halt := World.block_lt_of_cell? w0 _ hab
  have HABB := Lib.hid (fun w' (h : Below B W w') => (h.cell (p := ⟨ab, 0, none⟩) (Nat.lt_of_lt_of_le halt hwB)).trans ((hB.cell (p := ⟨ab, 0, none⟩) halt).trans hab))
  have HGB := Lib.hid (fun w' (h : Below W.heap.size W w') => blk_below hG h)
  have HOW := Lib.hid (fun w' (h : Below W.heap.size W w') => owns_below hO h)
  obtain ⟨ao, cp, rfl⟩ := rd_form (rdRow_of_owns hO)
  have HGD := Lib.hid hgood
  have hl := hgood.len
  have HFI := Lib.hid (fun w' (h : Below W.heap.size W w') => find_any l frm _ fu w' hgood.srt (rdF_owns (HOW.out _ h)) (by omega))
  have HNM := Lib.hid (namedD_any to W)
  obtain ⟨c0, c1, z0, z1⟩ := cell_of_two hG
  have HBW := Lib.hid hBW
  have HNB := Lib.hid (fun w' (h : Below W.heap.size W w') => HABB.out w' (h.mono HBW.out))
  have HGE := Lib.hid hge
  obtain ⟨r, hr⟩ : ∃ r, r = renameO namedD frm to l := ⟨_, rfl⟩
  rw [← hr]
  have HR := Lib.hid hr
  obtain ⟨k, hk⟩ : ∃ k, k = fidx frm l := ⟨_, rfl⟩
  have HK := Lib.hid hk
  rw [← hk] at HFI
  obtain ⟨nm, hnm⟩ : ∃ nm, nm = namedD to := ⟨_, rfl⟩
  rw [← hnm] at HNM
  have HNMD := Lib.hid hnm.symm
  clear htlt halt hgood hr hk hwB hB htb hab hBW hge hnm
  go_enter Tryd.func59, Tryd.ntmps59
  go_wp2_with fail
  (with_reducible refine HNM.out.mono ?_)
  rintro e wn ⟨rfl, hbn⟩
  have HBN := Lib.hid hbn
  clear hbn c0 c1 z0 z1 n0 HNM
  obtain ⟨c0, c1, z0, z1⟩ := cell_of_two (HGB.out _ HBN.out)
  have n0 := HNB.out _ HBN.out
  cases nm with
  | false =>
    have hr1 := HR.out.trans (renameO_1 HNMD.out)
    subst hr1
    go_wp2_with fail
    go_ret
    first | exact ⟨rfl, HBN.out.mono HBW.out, fun h => by cases h⟩ | exact ⟨rfl, HBN.out.mono HBW.out⟩
  | true =>
    cases hg : fget frm l with
    | none =>
      rw [hg] at HFI
      have hr1 := HR.out.trans (renameO_2 HNMD.out hg)
      subst hr1
      clear hg
      go_wp2_with fail
      refine Lone.wp_region_order [(0, false), (1, false), (2, false), (3, false), (4, true), (5, false), (6, false), (7, false), (8, false), (9, false)] (fun w' => w'.cell? ⟨gb, 0, none⟩ = some (.slice ao l.length cp) ∧ w'.cell? ⟨gb, 1, none⟩ = some (.int .i64 fu) ∧ w'.cell? ⟨ab, 0, none⟩ = some (.string frm)) (by kernel_rfl) (by kernel_rfl) rfl (by kernel_rfl) (by intro _ _ d _ _ h; cases d <;> exact h) (⟨c0, c1, n0⟩) ?_; simp only [List.map_cons, List.map_nil, List.getElem?_toArray, List.getElem?_cons_zero, List.getElem?_cons_succ, Option.getD_some]
      repeat (first | (refine Lone.ro_q (by rfl) (v := ?_) ?_ ?_; rotate_left; (focus (intro w' hSw; (try dsimp only at hSw); go_simp; try with_reducible rfl)); simp only [Act.put, List.setIfInBounds_toArray, List.set_cons_zero, List.set_cons_succ]) | (refine Lone.ro_skip (by rfl) ?_; simp only [Act.put, List.setIfInBounds_toArray, List.set_cons_zero, List.set_cons_succ]))
      (refine Lone.ro_loud (by rfl) (fun K hK => ?_); go_simp)
      (with_reducible refine (HFI.out _ (HBN.out).drew).mono ?_)
      rintro e w1 ⟨rfl, hb1⟩
      have HB1 := Lib.hid (show Below W.heap.size W w1 from (HBN.out).drew.trans (hb1.mono (HBN.out).size))
      clear hb1 c0 c1 z0 z1 n0
      obtain ⟨c0, c1, z0, z1⟩ := cell_of_two (HGB.out _ HB1.out)
      have n0 := HNB.out _ HB1.out
      (refine hK.out _ _ (fun w' => w'.cell? ⟨gb, 0, none⟩ = some (.slice ao l.length cp) ∧ w'.cell? ⟨gb, 1, none⟩ = some (.int .i64 fu) ∧ w'.cell? ⟨ab, 0, none⟩ = some (.string frm)) (.inl fun _ h => h) (⟨c0, c1, n0⟩) ?_; clear hK K; try simp only [Act.put, List.setIfInBounds_toArray, List.set_cons_zero, List.set_cons_succ])
      repeat (first | (refine Lone.ro_q (by rfl) (v := ?_) ?_ ?_; rotate_left; (focus (intro w' hSw; (try dsimp only at hSw); go_simp; try with_reducible rfl)); simp only [Act.put, List.setIfInBounds_toArray, List.set_cons_zero, List.set_cons_succ]) | (refine Lone.ro_skip (by rfl) ?_; simp only [Act.put, List.setIfInBounds_toArray, List.set_cons_zero, List.set_cons_succ]))
      (refine Lone.ro_nil ?_; go_wp2_with fail)
      go_ret
      first | exact ⟨rfl, HB1.out.mono HBW.out, fun h => by cases h⟩ | exact ⟨rfl, HB1.out.mono HBW.out⟩
    | some f =>
      rw [hg] at HFI
      obtain ⟨h1, h2, h3, h4⟩ := at_some Fil.name HGD.out.srt hg
      rw [← show k = idxL Fil.name frm l from HK.out] at h1 h2 h3 h4
      obtain ⟨g, cp', hv, hcp⟩ := own_form (HOW.out _ (Below.refl _ W)) (by omega)
      simp only [Value.slice.injEq, true_and] at hv
      obtain ⟨rfl, rfl⟩ := hv
      have hki : (k : Int) < (l.length : Int) := by omega
      have hkw : IntKind.i64.wrap ((k : Int) + 1) = (k : Int) + 1 := by rw [IntKind.wrap_i64]; omega
      have hr1 := HR.out.trans (renameO_3 HNMD.out hg)
      obtain ⟨l2, hl2e⟩ : ∃ l2, l2 = fdel frm l := ⟨_, rfl⟩
      rw [← hl2e] at hr1
      subst hr1
      have H2 := Lib.hid h2
      have HDE := Lib.hid (show fvs (l.take k) ++ fvs (l.drop (k + 1)) = fvs l2 by rw [hl2e, ← fvs_append, h4])
      have HDL := Lib.hid (show l.length - 1 = l2.length by have := len_del_some Fil.name HGD.out.srt hg; rw [hl2e]; show _ = (delL Fil.name frm l).length; omega)
      have HDG := Lib.hid (show GoodL namedD l2 by rw [hl2e]; exact fdel_inv (n := frm) HGD.out)
      have HDEL := Lib.hid (fun w1 (ho : w1.ownsRow B 92 3 (.slice (some ⟨g, 0, none⟩) l.length cp) l.length (fvs l)) => fil_del l.length k _ (fvs l) w1 B ((k : Int) + 1) rfl h1 ho (fvs_one l))
      have HD399 := Lib.hid (show l2.length + 1 ≤ 400 by have := len_del_some Fil.name HGD.out.srt hg; have := HGD.out.len; rw [hl2e]; show (delL Fil.name frm l).length + 1 ≤ 400; omega)
      clear h2 h3 h4 hl2e hg
      go_wp2_with fail
      refine Lone.wp_region_order [(0, false), (1, false), (2, false), (3, false), (4, true), (5, false), (6, false), (7, false), (8, false), (9, false)] (fun w' => w'.cell? ⟨gb, 0, none⟩ = some (.slice (some ⟨g, 0, none⟩) l.length cp) ∧ w'.cell? ⟨gb, 1, none⟩ = some (.int .i64 fu) ∧ w'.cell? ⟨ab, 0, none⟩ = some (.string frm)) (by kernel_rfl) (by kernel_rfl) rfl (by kernel_rfl) (by intro _ _ d _ _ h; cases d <;> exact h) (⟨c0, c1, n0⟩) ?_; simp only [List.map_cons, List.map_nil, List.getElem?_toArray, List.getElem?_cons_zero, List.getElem?_cons_succ, Option.getD_some]
      repeat (first | (refine Lone.ro_q (by rfl) (v := ?_) ?_ ?_; rotate_left; (focus (intro w' hSw; (try dsimp only at hSw); go_simp; try with_reducible rfl)); simp only [Act.put, List.setIfInBounds_toArray, List.set_cons_zero, List.set_cons_succ]) | (refine Lone.ro_skip (by rfl) ?_; simp only [Act.put, List.setIfInBounds_toArray, List.set_cons_zero, List.set_cons_succ]))
      (refine Lone.ro_loud (by rfl) (fun K hK => ?_); go_simp)
      (with_reducible refine (HFI.out _ (HBN.out).drew).mono ?_)
      rintro e w1 ⟨rfl, hb1⟩
      have HB1 := Lib.hid (show Below W.heap.size W w1 from (HBN.out).drew.trans (hb1.mono (HBN.out).size))
      clear hb1 c0 c1 z0 z1 n0
      obtain ⟨c0, c1, z0, z1⟩ := cell_of_two (HGB.out _ HB1.out)
      have n0 := HNB.out _ HB1.out
      (refine hK.out _ _ (fun w' => w'.cell? ⟨gb, 0, none⟩ = some (.slice (some ⟨g, 0, none⟩) l.length cp) ∧ w'.cell? ⟨gb, 1, none⟩ = some (.int .i64 fu) ∧ w'.cell? ⟨ab, 0, none⟩ = some (.string frm)) (.inl fun _ h => h) (⟨c0, c1, n0⟩) ?_; clear hK K; try simp only [Act.put, List.setIfInBounds_toArray, List.set_cons_zero, List.set_cons_succ])
      repeat (first | (refine Lone.ro_q (by rfl) (v := ?_) ?_ ?_; rotate_left; (focus (intro w' hSw; (try dsimp only at hSw); go_simp; try with_reducible rfl)); simp only [Act.put, List.setIfInBounds_toArray, List.set_cons_zero, List.set_cons_succ]) | (refine Lone.ro_skip (by rfl) ?_; simp only [Act.put, List.setIfInBounds_toArray, List.set_cons_zero, List.set_cons_succ]))
      have HO1 := Lib.hid (HOW.out _ HB1.out)
      obtain ⟨s0, s1, s2, sf⟩ := own_cells HO1.out H2.out
      clear sf n0
      obtain ⟨V, hV⟩ : ∃ V, w1.alloc (.cells #[.string f.name, .string f.safe, .string f.tail] 92) = V := ⟨_, rfl⟩
      have hv0 : V.heap[w1.heap.size]? = some (.cells #[.string f.name, .string f.safe, .string f.tail] 92 (0, 0)) := by rw [← hV]; exact heap_alloc_new _ _
      have hbV : Below w1.heap.size w1 V := by rw [← hV]; exact (Below.refl _ _).alloc (Nat.le_refl _) _
      obtain ⟨v0, v1, v2⟩ := three_of hv0
      have vf : V.frozen? ⟨w1.heap.size, 0, none⟩ = false := by simp [World.frozen?, hv0]
      have HBV := Lib.hid (HB1.out.trans (hbV.mono HB1.out.size))
      have m0 := HTBB.out _ (HBV.out.mono HBW.out)
      obtain ⟨V2, hV2⟩ : ∃ V2, V.setCell ⟨w1.heap.size, 0, none⟩ (.string to) = V2 := ⟨_, rfl⟩
      have HF2 := Lib.hid (show V2.heap[w1.heap.size]? = some (.cells #[.string to, .string f.safe, .string f.tail] 92 (0, 0)) by rw [← hV2]; exact three_set0 hv0)
      have HBV2 := Lib.hid (show Below W.heap.size W V2 by rw [← hV2]; exact HBV.out.setCell (p := ⟨w1.heap.size, 0, none⟩) HB1.out.size _)
      obtain ⟨e0, e1, y0, y1⟩ := cell_of_two (HGB.out _ HBV2.out)
      clear hv0 hbV
      (refine Lone.ro_nil ?_; go_wp2_with fail)
      (with_reducible refine (HDEL.out V2 (HOW.out _ HBV2.out)).mono ?_)
      rintro e w2 ⟨v', rfl, hO2, hU2, _⟩
      rw [fvs_take, fvs_drop, HDE.out, HDL.out] at hO2
      obtain ⟨ao2, cp2, rfl⟩ := rd_form (rdRow_of_owns hO2)
      have hgf : g < w1.heap.size := lt_of_lt_own HO1.out
      have hG2 := blk_upd (HGB.out _ HBV2.out) hU2 (fun e => owns_ne (e := 92) (t := 26) (HOW.out _ HBV2.out) (HGB.out _ HBV2.out) (by decide) e)
      have hF2 := blk_upd HF2.out hU2 (fun e => by obtain rfl : g = w1.heap.size := (by simpa [Value.ownBlock] using e); omega)
      have hB2 := (HBV2.out.mono HBW.out).trans (hU2.below (Nat.le_trans HBW.out HBV2.out.size) (fun i hi => ((HOW.out _ HBV2.out).lt i hi).1))
      have hgw : gb < w1.heap.size := Nat.lt_of_lt_of_le (lt_of_block (HGB.out _ (Below.refl _ W))) HB1.out.size
      clear c0 c1 z0 z1 e0 e1 y0 y1 v0 v1 v2 vf m0 s0 s1 s2 hU2 hV hV2
      obtain ⟨c0, c1, z0, z1⟩ := cell_of_two hG2
      obtain ⟨w3, hw3⟩ : ∃ w3, w2.setCell ⟨gb, 0, none⟩ (.slice ao2 l2.length cp2) = w3 := ⟨_, rfl⟩
      have hG3 : w3.heap[gb]? = some (.cells #[.slice ao2 l2.length cp2, .int .i64 fu] 26 (0, 0)) := by rw [← hw3]; exact two_setCell0 hG2
      have hF3 : w3.heap[w1.heap.size]? = some (.cells #[.string to, .string f.safe, .string f.tail] 92 (0, 0)) := by rw [← hw3]; exact blk_upd (S := fun i => i = gb) hF2 ((Upd.refl (fun i => i = gb) w2).setCell (a := ⟨gb, 0, none⟩) (.inl rfl) _) (by omega)
      have hO3 : w3.ownsRow B 92 3 (.slice ao2 l2.length cp2) l2.length (fvs l2) := by rw [← hw3]; exact owns_setCell hO2 (owns_ne (e := 92) (t := 26) hO2 hG2 (by decide)) _
      have HB3 := Lib.hid (show Below B W w3 by rw [← hw3]; exact hB2.setCell (p := ⟨gb, 0, none⟩) HGE.out _)
      have n3 := HTBB.out _ HB3.out
      have hn3 := World.block_lt_of_cell? w3 _ n3
      have HG3 := Lib.hid (fun w' (h : Below w3.heap.size w3 w') => blk_below hG3 h)
      have HF3 := Lib.hid (fun w' (h : Below w3.heap.size w3 w') => blk_below hF3 h)
      have HO3 := Lib.hid (fun w' (h : Below w3.heap.size w3 w') => owns_below hO3 h)
      have HN3 := Lib.hid (fun w' (h : Below w3.heap.size w3 w') => (h.cell (p := ⟨tb, 0, none⟩) hn3).trans n3)
      have hl2 := HDG.out.len
      have HFI2 := Lib.hid (find_any l2 to _ fu w3.drew HDG.out.srt (rdF_owns (HO3.out _ (Below.refl _ w3).drew)) (by omega))
      obtain ⟨k2, hk2⟩ : ∃ k2, k2 = fidx to l2 := ⟨_, rfl⟩
      have HK2 := Lib.hid hk2
      rw [← hk2] at HFI2
      clear hk2 hG2 hF2 hB2 hG3 hF3 hO3 hO2 hgf hn3 hgw
      have d0 := c0
      have x0 := z0
      cases hg2 : fget to l2 with
      | some f2 =>
        obtain ⟨i1, i2, i3, _⟩ := at_some Fil.name HDG.out.srt hg2
        rw [← show k2 = idxL Fil.name to l2 from HK2.out] at i1 i2 i3
        obtain ⟨g2, cp3, hv2, hcp2⟩ := own_form (HO3.out _ (Below.refl _ w3)) (by omega)
        simp only [Value.slice.injEq, true_and] at hv2
        obtain ⟨rfl, rfl⟩ := hv2
        have hk2i : (k2 : Int) < (l2.length : Int) := by omega
        have I2 := Lib.hid i2
        have I3 := Lib.hid (i3 ⟨to, f.safe, f.tail⟩ rfl)
        have HLN := Lib.hid (len_put_some Fil.name (f := ⟨to, f.safe, f.tail⟩) HDG.out.srt hg2)
        rw [hg2] at HFI2
        clear i2 i3 hg2
        go_wp2_with fail
        obtain ⟨c0, c1, z0, z1⟩ := cell_of_two (HG3.out _ (Below.refl _ w3))
        have n0 := HN3.out _ (Below.refl _ w3)
        clear d0 x0
        refine Lone.wp_region_order [(0, false), (1, false), (2, false), (3, false), (4, true), (5, false), (6, false), (7, false), (8, false), (9, false)] (fun w' => w'.cell? ⟨gb, 0, none⟩ = some (.slice (some ⟨g2, 0, none⟩) l2.length cp2) ∧ w'.cell? ⟨gb, 1, none⟩ = some (.int .i64 fu) ∧ w'.cell? ⟨tb, 0, none⟩ = some (.string to)) (by kernel_rfl) (by kernel_rfl) rfl (by kernel_rfl) (by intro _ _ d _ _ h; cases d <;> exact h) (⟨c0, c1, n0⟩) ?_; simp only [List.map_cons, List.map_nil, List.getElem?_toArray, List.getElem?_cons_zero, List.getElem?_cons_succ, Option.getD_some]
        repeat (first | (refine Lone.ro_q (by rfl) (v := ?_) ?_ ?_; rotate_left; (focus (intro w' hSw; (try dsimp only at hSw); go_simp; try with_reducible rfl)); simp only [Act.put, List.setIfInBounds_toArray, List.set_cons_zero, List.set_cons_succ]) | (refine Lone.ro_skip (by rfl) ?_; simp only [Act.put, List.setIfInBounds_toArray, List.set_cons_zero, List.set_cons_succ]))
        (refine Lone.ro_loud (by rfl) (fun K hK => ?_); go_simp)
        (with_reducible refine (HFI2.out).mono ?_)
        rintro e w4 ⟨rfl, hb1⟩
        have HB4 := Lib.hid (show Below w3.heap.size w3 w4 from ((Below.refl w3.heap.size w3)).drew.trans (hb1.mono ((Below.refl w3.heap.size w3)).size))
        clear hb1 c0 c1 z0 z1 n0
        obtain ⟨c0, c1, z0, z1⟩ := cell_of_two (HG3.out _ HB4.out)
        have n0 := HN3.out _ HB4.out
        (refine hK.out _ _ (fun w' => w'.cell? ⟨gb, 0, none⟩ = some (.slice (some ⟨g2, 0, none⟩) l2.length cp2) ∧ w'.cell? ⟨gb, 1, none⟩ = some (.int .i64 fu) ∧ w'.cell? ⟨tb, 0, none⟩ = some (.string to)) (.inl fun _ h => h) (⟨c0, c1, n0⟩) ?_; clear hK K; try simp only [Act.put, List.setIfInBounds_toArray, List.set_cons_zero, List.set_cons_succ])
        repeat (first | (refine Lone.ro_q (by rfl) (v := ?_) ?_ ?_; rotate_left; (focus (intro w' hSw; (try dsimp only at hSw); go_simp; try with_reducible rfl)); simp only [Act.put, List.setIfInBounds_toArray, List.set_cons_zero, List.set_cons_succ]) | (refine Lone.ro_skip (by rfl) ?_; simp only [Act.put, List.setIfInBounds_toArray, List.set_cons_zero, List.set_cons_succ]))
        have HO4 := Lib.hid (HO3.out _ HB4.out)
        obtain ⟨s0, s1, s2, sf⟩ := own_cells HO4.out I2.out
        have sf0 := sf (k2 * 3)
        have sf1 := sf (k2 * 3 + 1)
        have sf2 := sf (k2 * 3 + 2)
        obtain ⟨v0, v1, v2⟩ := three_of (HF3.out _ HB4.out)
        clear sf
        (refine Lone.ro_nil ?_; go_wp2_with fail)
        go_region
        have HUP := Lib.hid ((((Upd.refl (fun i => i = g2) w4).setCell (a := ⟨g2, k2 * 3, none⟩) (.inl rfl) (.string to)).setCell (a := ⟨g2, k2 * 3 + 1, none⟩) (.inl rfl) (.string f.safe)).setCell (a := ⟨g2, k2 * 3 + 2, none⟩) (.inl rfl) (.string f.tail))
        have hgB : B ≤ g2 := (HO4.out.lt g2 rfl).1
        have HGN := Lib.hid (show gb ≠ g2 from fun e => owns_ne (e := 92) (t := 26) HO4.out (HG3.out _ HB4.out) (by decide) (by rw [e]; rfl))
        have h := own_set (own_set (own_set HO4.out (k2 * 3) (.string to)) (k2 * 3 + 1) (.string f.safe)) (k2 * 3 + 2) (.string f.tail)
        rw [fvs_set I2.out ⟨to, f.safe, f.tail⟩, set_parts _ _ _ i1, I3.out] at h
        have HX := Lib.hid h
        have hle : B ≤ w3.heap.size := Nat.le_trans HBW.out HB3.out.size
        have hbf := Lib.hid ((HB3.out.trans (HB4.out.mono hle)).trans (HUP.out.below (Nat.le_trans hle HB4.out.size) (fun i hi => by rw [hi]; exact hgB)))
        have hgf := Lib.hid (blk_upd (S := fun i => i = g2) (HG3.out _ HB4.out) HUP.out HGN.out)
        clear h c0 c1 z0 z1 s0 s1 s2 sf0 sf1 sf2 v0 v1 v2 n0
        go_wp2_with fail
        go_ret
        refine ⟨rfl, hbf.out.drew, ?_⟩
        try intro _
        refine ⟨_, hgf.out, ?_⟩
        show World.ownsRow _ B 92 3 _ (putL Fil.name _ l2).length (fvs (putL Fil.name _ l2))
        rw [HLN.out]
        exact HX.out
      | none =>
        obtain ⟨i1, i3⟩ := at_none Fil.name HDG.out.srt hg2
        rw [← show k2 = idxL Fil.name to l2 from HK2.out] at i1 i3
        have I3 := Lib.hid (i3 ⟨to, f.safe, f.tail⟩ rfl)
        have HLN := Lib.hid (len_put_none Fil.name (f := ⟨to, f.safe, f.tail⟩) HDG.out.srt hg2)
        rw [hg2] at HFI2
        clear i3 hg2
        go_wp2_with fail
        obtain ⟨c0, c1, z0, z1⟩ := cell_of_two (HG3.out _ (Below.refl _ w3))
        have n0 := HN3.out _ (Below.refl _ w3)
        clear d0 x0
        refine Lone.wp_region_order [(0, false), (1, false), (2, false), (3, false), (4, true), (5, false), (6, false), (7, false), (8, false), (9, false)] (fun w' => w'.cell? ⟨gb, 0, none⟩ = some (.slice ao2 l2.length cp2) ∧ w'.cell? ⟨gb, 1, none⟩ = some (.int .i64 fu) ∧ w'.cell? ⟨tb, 0, none⟩ = some (.string to)) (by kernel_rfl) (by kernel_rfl) rfl (by kernel_rfl) (by intro _ _ d _ _ h; cases d <;> exact h) (⟨c0, c1, n0⟩) ?_; simp only [List.map_cons, List.map_nil, List.getElem?_toArray, List.getElem?_cons_zero, List.getElem?_cons_succ, Option.getD_some]
        repeat (first | (refine Lone.ro_q (by rfl) (v := ?_) ?_ ?_; rotate_left; (focus (intro w' hSw; (try dsimp only at hSw); go_simp; try with_reducible rfl)); simp only [Act.put, List.setIfInBounds_toArray, List.set_cons_zero, List.set_cons_succ]) | (refine Lone.ro_skip (by rfl) ?_; simp only [Act.put, List.setIfInBounds_toArray, List.set_cons_zero, List.set_cons_succ]))
        (refine Lone.ro_loud (by rfl) (fun K hK => ?_); go_simp)
        (with_reducible refine (HFI2.out).mono ?_)
        rintro e w4 ⟨rfl, hb1⟩
        have HB4 := Lib.hid (show Below w3.heap.size w3 w4 from ((Below.refl w3.heap.size w3)).drew.trans (hb1.mono ((Below.refl w3.heap.size w3)).size))
        clear hb1 c0 c1 z0 z1 n0
        obtain ⟨c0, c1, z0, z1⟩ := cell_of_two (HG3.out _ HB4.out)
        have n0 := HN3.out _ HB4.out
        (refine hK.out _ _ (fun w' => w'.cell? ⟨gb, 0, none⟩ = some (.slice ao2 l2.length cp2) ∧ w'.cell? ⟨gb, 1, none⟩ = some (.int .i64 fu) ∧ w'.cell? ⟨tb, 0, none⟩ = some (.string to)) (.inl fun _ h => h) (⟨c0, c1, n0⟩) ?_; clear hK K; try simp only [Act.put, List.setIfInBounds_toArray, List.set_cons_zero, List.set_cons_succ])
        repeat (first | (refine Lone.ro_q (by rfl) (v := ?_) ?_ ?_; rotate_left; (focus (intro w' hSw; (try dsimp only at hSw); go_simp; try with_reducible rfl)); simp only [Act.put, List.setIfInBounds_toArray, List.set_cons_zero, List.set_cons_succ]) | (refine Lone.ro_skip (by rfl) ?_; simp only [Act.put, List.setIfInBounds_toArray, List.set_cons_zero, List.set_cons_succ]))
        obtain ⟨v0, v1, v2⟩ := three_of (HF3.out _ HB4.out)
        (refine Lone.ro_nil ?_; go_wp2_with fail)
        have hle : B ≤ w3.heap.size := Nat.le_trans HBW.out HB3.out.size
        have HLE := Lib.hid hle
        have hbA : Below w3.heap.size w3 (w4.alloc (.cells #[.string to, .string f.safe, .string f.tail] 92)).drew := (HB4.out.alloc HB4.out.size (.cells #[.string to, .string f.safe, .string f.tail] 92)).drew
        have HBA := Lib.hid hbA
        have HVA := Lib.hid (show (w4.alloc (.cells #[.string to, .string f.safe, .string f.tail] 92)).drew.heap[w4.heap.size]? = some (.cells #[.string to, .string f.safe, .string f.tail] 92 (0, 0)) from heap_alloc_new w4 _)
        have HV1 := Lib.hid (three_one to f.safe f.tail)
        have hne1 : (Value.slice ao2 l2.length cp2).ownBlock ≠ some w4.heap.size := fun e => absurd ((HO3.out _ HB4.out).lt _ e).2 (Nat.lt_irrefl _)
        have HINS := Lib.hid (fun (w' : World) (hb : Below w3.heap.size w3 w') (hvb : w'.heap[w4.heap.size]? = some (.cells #[.string to, .string f.safe, .string f.tail] 92 (0, 0))) => fil_ins l2.length k2 _ (fvs l2) w' B w4.heap.size #[.string to, .string f.safe, .string f.tail] i1 (HO3.out _ hb) (fvs_one l2) (Nat.le_trans HLE.out hb.size) hvb rfl HV1.out hne1 (by have := HD399.out; omega))
        have HB2F := Lib.hid (fun (w' w2 : World) (hb : Below w3.heap.size w3 w') (hu : Upd (fun b => (Value.slice ao2 l2.length cp2).ownBlock = some b) w' w2) => (HB3.out.trans (hb.mono HLE.out)).trans (hu.below (Nat.le_trans HLE.out hb.size) (fun i hi => ((HO3.out _ hb).lt i hi).1)))
        have HG2F := Lib.hid (fun (w' w2 : World) (hb : Below w3.heap.size w3 w') (hu : Upd (fun b => (Value.slice ao2 l2.length cp2).ownBlock = some b) w' w2) => blk_upd (HG3.out _ hb) hu (fun e => owns_ne (e := 92) (t := 26) (HO3.out _ hb) (HG3.out _ hb) (by decide) e))
        have c0a := (cell_of_two (HG3.out _ hbA)).1
        obtain ⟨va0, va1, va2⟩ := three_of (HF3.out _ hbA)
        clear hbA hne1 hle
        go_region_with (go_at_call 57; refine (HINS.out _ ?_ ?_).mono ?_; exact HBA.out; exact HVA.out; rintro e w5 ⟨v', rfl, hO5, hU5⟩; obtain ⟨g5, cp5, hv, hcp5⟩ := own_form hO5 (Nat.succ_pos _); subst hv; have HB5 := Lib.hid (HB2F.out _ _ HBA.out hU5); have HG5 := Lib.hid (HG2F.out _ _ HBA.out hU5); clear c0 c1 z0 z1 hU5 c0a va0 va1 va2 v0 v1 v2; obtain ⟨c0, c1, z0, z1⟩ := cell_of_two HG5.out; have HO5 := Lib.hid hO5; clear hO5)
        all_goals
          clear c0 c1 z0 z1
          go_wp2_with fail
          go_ret
          have h := owns_setCell HO5.out (owns_ne (e := 92) (t := 26) HO5.out HG5.out (by decide)) (a := ⟨gb, 0, none⟩) (.slice (some ⟨g5, 0, none⟩) (l2.length + 1) cp5)
          rw [show ([Value.string to, .string f.safe, .string f.tail] : List Value) = fvs [⟨to, f.safe, f.tail⟩] from rfl, fvs_take, fvs_drop, ← fvs_append, ← fvs_append, List.append_assoc, List.singleton_append, I3.out] at h
          refine ⟨rfl, HB5.out.setCell (p := ⟨gb, 0, none⟩) HGE.out _, ?_⟩
          try intro _
          refine ⟨_, two_setCell0 HG5.out, ?_⟩
          show World.ownsRow _ B 92 3 _ (putL Fil.name _ l2).length (fvs (putL Fil.name _ l2))
          rw [HLN.out]
          exact h
end Go.Proofs.YtmacceamebdelaaDoor
/-! Disk8 -/
namespace Go.Proofs.YtmacceamebdelaaDoor
open Go.RowKit
set_option linter.unusedVariables false
set_option linter.unusedSimpArgs false

theorem cell_upd {S : Nat → Prop} {w w' : World} (h : Upd S w w') {a : Addr} {u : Value} (hc : w.cell? a = some u) (hn : ¬ S a.block) : w'.cell? a = some u := by
  have hlt := World.block_lt_of_cell? w a hc
  have hb := h.block a.block hlt hn
  unfold World.cell? at hc ⊢
  rw [hb]
  exact hc
theorem no_str {w : World} {b : Nat} {ao : Option Addr} {n c : Nat} {k : IntKind} {i : Int} {t : TypeId} {fr : Nat × Nat} (h : w.heap[b]? = some (.cells #[.slice ao n c, .int k i] t fr)) : ∀ j u, w.cell? ⟨b, j, none⟩ = some u → ∀ s, u ≠ .string s := by
  intro j u hu s hs
  subst hs
  match j, hu with
  | 0, hu => simp [World.cell?, h] at hu
  | 1, hu => simp [World.cell?, h] at hu
  | j + 2, hu => simp [World.cell?, h] at hu
theorem rdF_upd {w w' : World} {v : Value} {l : List Fil} {b : Nat} (h : rdF w v l) (hu : Upd (fun i => i = b) w w') (hb : ∀ j u, w.cell? ⟨b, j, none⟩ = some u → ∀ s, u ≠ .string s) : rdF w' v l := by
  obtain ⟨h1, ao, cap, rfl, hle, hm, hz, hc⟩ := h
  refine ⟨h1, ao, cap, rfl, hle, hm, hz, fun a ha j u hj => ?_⟩
  have h0 := hc a ha j u hj
  refine cell_upd hu h0 (fun e => ?_)
  have hs := World.cell?_spot h0
  have hus : ∃ s, u = .string s := by
    have hm := List.mem_of_getElem? hj
    obtain ⟨x, _, hx⟩ := List.mem_flatMap.1 hm
    simp at hx
    rcases hx with rfl | rfl | rfl <;> exact ⟨_, rfl⟩
  obtain ⟨s, hs2⟩ := hus
  refine hb (a.add j).off u ?_ s hs2
  rw [← e, ← h0, ← hs]
theorem set2_updF {w : World} {g : Nat} (u u' : Value) : Upd (fun i => i = g) w ((w.setCell ⟨g, 0, none⟩ u).setCell ⟨g, 1, none⟩ u') := set2_upd u u'
set_option maxRecDepth 100000 in
set_option maxHeartbeats 3200000 in
theorem write_anyN (l : List Fil) (fuse : Int) (hfu : -9223372036854775808 ≤ fuse ∧ fuse ≤ 9223372036854775807) (v : Value) (w : World) (hr : rdF w v l) (name s : ByteArray) :
    Calls Tryd.prog 31 #[.agg #[v, .int .i64 fuse], .string name, .string s] w (RetN w v l (writeD namedD ⟨l, fuse⟩ name s)) := by
  obtain ⟨ao, cp, rfl⟩ := rd_form hr
  obtain ⟨W, hW⟩ : ∃ W, (((w.alloc (.cells #[.slice ao l.length cp, .int .i64 fuse] 26)).alloc (.cells #[.string name] 9)).alloc (.cells #[.string s] 9)).alloc (.cells #[.slice none 0 0, .int .i64 0] 26) = W := ⟨_, rfl⟩
  have hbW : Below w.heap.size w W := by rw [← hW]; exact ((((Below.refl _ _).alloc (Nat.le_refl _) _).alloc (by simp <;> omega) _).alloc (by simp <;> omega) _).alloc (by simp <;> omega) _
  have hsz : W.heap.size = w.heap.size + 4 := by rw [← hW]; simp
  have g0 : W.heap[w.heap.size]? = some (.cells #[.slice ao l.length cp, .int .i64 fuse] 26 (0, 0)) := by rw [← hW]; exact heap_old (heap_old (heap_old (heap_alloc_new _ _)))
  have n1 : W.cell? ⟨w.heap.size + 1, 0, none⟩ = some (.string name) := by rw [← hW]; exact cell_one (heap_old (heap_old (heap_new (by simp))))
  have n2 : W.cell? ⟨w.heap.size + 2, 0, none⟩ = some (.string s) := by rw [← hW]; exact cell_one (heap_old (heap_new (by simp)))
  have gr : W.heap[w.heap.size + 3]? = some (.cells #[.slice none 0 0, .int .i64 0] 26 (0, 0)) := by rw [← hW]; exact heap_new (by simp)
  have HST := Lib.hid (step_anyN l fuse hfu (writeO namedD name s) (.slice ao l.length cp) W (hr.below hbW) 56 #[.pointer (some ⟨w.heap.size + 1, 0, none⟩), .pointer (some ⟨w.heap.size + 2, 0, none⟩)] (enters_of Tryd.func56 (by kernel_rfl) rfl) (fun hg => writeC W l name s _ _ hg n1 n2))
  obtain ⟨r, hr0⟩ : ∃ r, r = stepD namedD ⟨l, fuse⟩ (writeO namedD name s) := ⟨_, rfl⟩
  rw [← hr0] at HST
  have HR := Lib.hid (show writeD namedD ⟨l, fuse⟩ name s = r from hr0.symm)
  rw [HR.out]
  obtain ⟨⟨fl, fz⟩, er⟩ := r
  have HGR := Lib.hid (fun w' (h : Below W.heap.size W w') => blk_below gr h)
  have HBW := Lib.hid hbW
  have HSZ := Lib.hid hsz
  clear hr hr0 gr hbW hsz n1 n2
  obtain ⟨c0, c1, z0, z1⟩ := cell_of_two g0
  clear g0
  go_enter Tryd.func31, Tryd.ntmps31
  go_wp2_with fail
  (with_reducible refine HST.out.mono ?_)
  rintro e w1 ⟨v', rfl, hrd, hb, hnw⟩
  obtain ⟨ao2, cp2, rfl⟩ := rd_form hrd
  have HB1 := Lib.hid hb
  have HRD := Lib.hid hrd
  have HNW := Lib.hid hnw
  clear hnw hb hrd c0 c1 z0 z1 hW HST
  obtain ⟨d0, d1, y0, y1⟩ := cell_of_two (HGR.out _ HB1.out)
  go_wp2_with fail
  have hgf := two_setCell1 (u := .int .i64 fz) (two_setCell0 (u := .slice ao2 fl.length cp2) (HGR.out _ HB1.out))
  obtain ⟨e0, e1, _, _⟩ := cell_of_two hgf
  refine bodyPost_ret (v := .tuple #[.agg #[.slice ao2 fl.length cp2, .int .i64 fz], .int .i64 er]) ?_ rfl ⟨_, rfl, ?_, ?_, ?_⟩
  · simp [results, Tryd.f31, go_sem, e0, e1]
  · exact rdF_upd HRD.out (set2_upd _ _) (no_str (HGR.out _ HB1.out))
  · exact set2_below (HBW.out.trans (HB1.out.mono HBW.out.size)) (by omega) _ _
  · exact HNW.out.set2 (HGR.out _ HB1.out) HBW.out.size _ _
theorem write_any (l : List Fil) (fuse : Int) (hfu : -9223372036854775808 ≤ fuse ∧ fuse ≤ 9223372036854775807) (v : Value) (w : World) (hr : rdF w v l) (name s : ByteArray) :
    Calls Tryd.prog 31 #[.agg #[v, .int .i64 fuse], .string name, .string s] w (RetD w (writeD namedD ⟨l, fuse⟩ name s)) :=
  (write_anyN l fuse hfu v w hr name s).mono (fun _ _ h => h.d)
set_option maxRecDepth 100000 in
set_option maxHeartbeats 3200000 in
theorem sync_anyN (l : List Fil) (fuse : Int) (hfu : -9223372036854775808 ≤ fuse ∧ fuse ≤ 9223372036854775807) (v : Value) (w : World) (hr : rdF w v l) (name : ByteArray) :
    Calls Tryd.prog 32 #[.agg #[v, .int .i64 fuse], .string name] w (RetN w v l (syncD namedD ⟨l, fuse⟩ name)) := by
  obtain ⟨ao, cp, rfl⟩ := rd_form hr
  obtain ⟨W, hW⟩ : ∃ W, ((w.alloc (.cells #[.slice ao l.length cp, .int .i64 fuse] 26)).alloc (.cells #[.string name] 9)).alloc (.cells #[.slice none 0 0, .int .i64 0] 26) = W := ⟨_, rfl⟩
  have hbW : Below w.heap.size w W := by rw [← hW]; exact (((Below.refl _ _).alloc (Nat.le_refl _) _).alloc (by simp <;> omega) _).alloc (by simp <;> omega) _
  have hsz : W.heap.size = w.heap.size + 3 := by rw [← hW]; simp
  have g0 : W.heap[w.heap.size]? = some (.cells #[.slice ao l.length cp, .int .i64 fuse] 26 (0, 0)) := by rw [← hW]; exact heap_old (heap_old (heap_alloc_new _ _))
  have n1 : W.cell? ⟨w.heap.size + 1, 0, none⟩ = some (.string name) := by rw [← hW]; exact cell_one (heap_old (heap_new (by simp)))
  have gr : W.heap[w.heap.size + 2]? = some (.cells #[.slice none 0 0, .int .i64 0] 26 (0, 0)) := by rw [← hW]; exact heap_new (by simp)
  have HST := Lib.hid (step_anyN l fuse hfu (syncO name) (.slice ao l.length cp) W (hr.below hbW) 58 #[.pointer (some ⟨w.heap.size + 1, 0, none⟩)] (enters_of Tryd.func58 (by kernel_rfl) rfl) (fun hg => syncC W l name _ hg n1))
  obtain ⟨r, hr0⟩ : ∃ r, r = stepD namedD ⟨l, fuse⟩ (syncO name) := ⟨_, rfl⟩
  rw [← hr0] at HST
  have HR := Lib.hid (show syncD namedD ⟨l, fuse⟩ name = r from hr0.symm)
  rw [HR.out]
  obtain ⟨⟨fl, fz⟩, er⟩ := r
  have HGR := Lib.hid (fun w' (h : Below W.heap.size W w') => blk_below gr h)
  have HBW := Lib.hid hbW
  have HSZ := Lib.hid hsz
  clear hr hr0 gr hbW hsz n1
  obtain ⟨c0, c1, z0, z1⟩ := cell_of_two g0
  clear g0
  go_enter Tryd.func32, Tryd.ntmps32
  go_wp2_with fail
  (with_reducible refine HST.out.mono ?_)
  rintro e w1 ⟨v', rfl, hrd, hb, hnw⟩
  obtain ⟨ao2, cp2, rfl⟩ := rd_form hrd
  have HB1 := Lib.hid hb
  have HRD := Lib.hid hrd
  have HNW := Lib.hid hnw
  clear hnw hb hrd c0 c1 z0 z1 hW HST
  obtain ⟨d0, d1, y0, y1⟩ := cell_of_two (HGR.out _ HB1.out)
  go_wp2_with fail
  have hgf := two_setCell1 (u := .int .i64 fz) (two_setCell0 (u := .slice ao2 fl.length cp2) (HGR.out _ HB1.out))
  obtain ⟨e0, e1, _, _⟩ := cell_of_two hgf
  refine bodyPost_ret (v := .tuple #[.agg #[.slice ao2 fl.length cp2, .int .i64 fz], .int .i64 er]) ?_ rfl ⟨_, rfl, ?_, ?_, ?_⟩
  · simp [results, Tryd.f32, go_sem, e0, e1]
  · exact rdF_upd HRD.out (set2_upd _ _) (no_str (HGR.out _ HB1.out))
  · exact set2_below (HBW.out.trans (HB1.out.mono HBW.out.size)) (by omega) _ _
  · exact HNW.out.set2 (HGR.out _ HB1.out) HBW.out.size _ _
theorem sync_any (l : List Fil) (fuse : Int) (hfu : -9223372036854775808 ≤ fuse ∧ fuse ≤ 9223372036854775807) (v : Value) (w : World) (hr : rdF w v l) (name : ByteArray) :
    Calls Tryd.prog 32 #[.agg #[v, .int .i64 fuse], .string name] w (RetD w (syncD namedD ⟨l, fuse⟩ name)) :=
  (sync_anyN l fuse hfu v w hr name).mono (fun _ _ h => h.d)
set_option maxRecDepth 100000 in
set_option maxHeartbeats 3200000 in
theorem remove_anyN (l : List Fil) (fuse : Int) (hfu : -9223372036854775808 ≤ fuse ∧ fuse ≤ 9223372036854775807) (v : Value) (w : World) (hr : rdF w v l) (name : ByteArray) :
    Calls Tryd.prog 30 #[.agg #[v, .int .i64 fuse], .string name] w (RetN w v l (removeD namedD ⟨l, fuse⟩ name)) := by
  obtain ⟨ao, cp, rfl⟩ := rd_form hr
  obtain ⟨W, hW⟩ : ∃ W, ((w.alloc (.cells #[.slice ao l.length cp, .int .i64 fuse] 26)).alloc (.cells #[.string name] 9)).alloc (.cells #[.slice none 0 0, .int .i64 0] 26) = W := ⟨_, rfl⟩
  have hbW : Below w.heap.size w W := by rw [← hW]; exact (((Below.refl _ _).alloc (Nat.le_refl _) _).alloc (by simp <;> omega) _).alloc (by simp <;> omega) _
  have hsz : W.heap.size = w.heap.size + 3 := by rw [← hW]; simp
  have g0 : W.heap[w.heap.size]? = some (.cells #[.slice ao l.length cp, .int .i64 fuse] 26 (0, 0)) := by rw [← hW]; exact heap_old (heap_old (heap_alloc_new _ _))
  have n1 : W.cell? ⟨w.heap.size + 1, 0, none⟩ = some (.string name) := by rw [← hW]; exact cell_one (heap_old (heap_new (by simp)))
  have gr : W.heap[w.heap.size + 2]? = some (.cells #[.slice none 0 0, .int .i64 0] 26 (0, 0)) := by rw [← hW]; exact heap_new (by simp)
  have HST := Lib.hid (step_anyN l fuse hfu (removeO name) (.slice ao l.length cp) W (hr.below hbW) 54 #[.pointer (some ⟨w.heap.size + 1, 0, none⟩)] (enters_of Tryd.func54 (by kernel_rfl) rfl) (fun hg => removeC W l name _ hg n1))
  obtain ⟨r, hr0⟩ : ∃ r, r = stepD namedD ⟨l, fuse⟩ (removeO name) := ⟨_, rfl⟩
  rw [← hr0] at HST
  have HR := Lib.hid (show removeD namedD ⟨l, fuse⟩ name = r from hr0.symm)
  rw [HR.out]
  obtain ⟨⟨fl, fz⟩, er⟩ := r
  have HGR := Lib.hid (fun w' (h : Below W.heap.size W w') => blk_below gr h)
  have HBW := Lib.hid hbW
  have HSZ := Lib.hid hsz
  clear hr hr0 gr hbW hsz n1
  obtain ⟨c0, c1, z0, z1⟩ := cell_of_two g0
  clear g0
  go_enter Tryd.func30, Tryd.ntmps30
  go_wp2_with fail
  (with_reducible refine HST.out.mono ?_)
  rintro e w1 ⟨v', rfl, hrd, hb, hnw⟩
  obtain ⟨ao2, cp2, rfl⟩ := rd_form hrd
  have HB1 := Lib.hid hb
  have HRD := Lib.hid hrd
  have HNW := Lib.hid hnw
  clear hnw hb hrd c0 c1 z0 z1 hW HST
  obtain ⟨d0, d1, y0, y1⟩ := cell_of_two (HGR.out _ HB1.out)
  go_wp2_with fail
  have hgf := two_setCell1 (u := .int .i64 fz) (two_setCell0 (u := .slice ao2 fl.length cp2) (HGR.out _ HB1.out))
  obtain ⟨e0, e1, _, _⟩ := cell_of_two hgf
  refine bodyPost_ret (v := .tuple #[.agg #[.slice ao2 fl.length cp2, .int .i64 fz], .int .i64 er]) ?_ rfl ⟨_, rfl, ?_, ?_, ?_⟩
  · simp [results, Tryd.f30, go_sem, e0, e1]
  · exact rdF_upd HRD.out (set2_upd _ _) (no_str (HGR.out _ HB1.out))
  · exact set2_below (HBW.out.trans (HB1.out.mono HBW.out.size)) (by omega) _ _
  · exact HNW.out.set2 (HGR.out _ HB1.out) HBW.out.size _ _
theorem remove_any (l : List Fil) (fuse : Int) (hfu : -9223372036854775808 ≤ fuse ∧ fuse ≤ 9223372036854775807) (v : Value) (w : World) (hr : rdF w v l) (name : ByteArray) :
    Calls Tryd.prog 30 #[.agg #[v, .int .i64 fuse], .string name] w (RetD w (removeD namedD ⟨l, fuse⟩ name)) :=
  (remove_anyN l fuse hfu v w hr name).mono (fun _ _ h => h.d)
set_option maxRecDepth 100000 in
set_option maxHeartbeats 3200000 in
theorem rename_anyN (l : List Fil) (fuse : Int) (hfu : -9223372036854775808 ≤ fuse ∧ fuse ≤ 9223372036854775807) (v : Value) (w : World) (hr : rdF w v l) (frm to : ByteArray) :
    Calls Tryd.prog 33 #[.agg #[v, .int .i64 fuse], .string frm, .string to] w (RetN w v l (renameD namedD ⟨l, fuse⟩ frm to)) := by
  obtain ⟨ao, cp, rfl⟩ := rd_form hr
  obtain ⟨W, hW⟩ : ∃ W, (((w.alloc (.cells #[.slice ao l.length cp, .int .i64 fuse] 26)).alloc (.cells #[.string frm] 9)).alloc (.cells #[.string to] 9)).alloc (.cells #[.slice none 0 0, .int .i64 0] 26) = W := ⟨_, rfl⟩
  have hbW : Below w.heap.size w W := by rw [← hW]; exact ((((Below.refl _ _).alloc (Nat.le_refl _) _).alloc (by simp <;> omega) _).alloc (by simp <;> omega) _).alloc (by simp <;> omega) _
  have hsz : W.heap.size = w.heap.size + 4 := by rw [← hW]; simp
  have g0 : W.heap[w.heap.size]? = some (.cells #[.slice ao l.length cp, .int .i64 fuse] 26 (0, 0)) := by rw [← hW]; exact heap_old (heap_old (heap_old (heap_alloc_new _ _)))
  have n1 : W.cell? ⟨w.heap.size + 1, 0, none⟩ = some (.string frm) := by rw [← hW]; exact cell_one (heap_old (heap_old (heap_new (by simp))))
  have n2 : W.cell? ⟨w.heap.size + 2, 0, none⟩ = some (.string to) := by rw [← hW]; exact cell_one (heap_old (heap_new (by simp)))
  have gr : W.heap[w.heap.size + 3]? = some (.cells #[.slice none 0 0, .int .i64 0] 26 (0, 0)) := by rw [← hW]; exact heap_new (by simp)
  have HST := Lib.hid (step_anyN l fuse hfu (renameO namedD frm to) (.slice ao l.length cp) W (hr.below hbW) 59 #[.pointer (some ⟨w.heap.size + 2, 0, none⟩), .pointer (some ⟨w.heap.size + 1, 0, none⟩)] (enters_of Tryd.func59 (by kernel_rfl) rfl) (fun hg => renameC W l frm to _ _ hg n2 n1))
  obtain ⟨r, hr0⟩ : ∃ r, r = stepD namedD ⟨l, fuse⟩ (renameO namedD frm to) := ⟨_, rfl⟩
  rw [← hr0] at HST
  have HR := Lib.hid (show renameD namedD ⟨l, fuse⟩ frm to = r from hr0.symm)
  rw [HR.out]
  obtain ⟨⟨fl, fz⟩, er⟩ := r
  have HGR := Lib.hid (fun w' (h : Below W.heap.size W w') => blk_below gr h)
  have HBW := Lib.hid hbW
  have HSZ := Lib.hid hsz
  clear hr hr0 gr hbW hsz n1 n2
  obtain ⟨c0, c1, z0, z1⟩ := cell_of_two g0
  clear g0
  go_enter Tryd.func33, Tryd.ntmps33
  go_wp2_with fail
  (with_reducible refine HST.out.mono ?_)
  rintro e w1 ⟨v', rfl, hrd, hb, hnw⟩
  obtain ⟨ao2, cp2, rfl⟩ := rd_form hrd
  have HB1 := Lib.hid hb
  have HRD := Lib.hid hrd
  have HNW := Lib.hid hnw
  clear hnw hb hrd c0 c1 z0 z1 hW HST
  obtain ⟨d0, d1, y0, y1⟩ := cell_of_two (HGR.out _ HB1.out)
  go_wp2_with fail
  have hgf := two_setCell1 (u := .int .i64 fz) (two_setCell0 (u := .slice ao2 fl.length cp2) (HGR.out _ HB1.out))
  obtain ⟨e0, e1, _, _⟩ := cell_of_two hgf
  refine bodyPost_ret (v := .tuple #[.agg #[.slice ao2 fl.length cp2, .int .i64 fz], .int .i64 er]) ?_ rfl ⟨_, rfl, ?_, ?_, ?_⟩
  · simp [results, Tryd.f33, go_sem, e0, e1]
  · exact rdF_upd HRD.out (set2_upd _ _) (no_str (HGR.out _ HB1.out))
  · exact set2_below (HBW.out.trans (HB1.out.mono HBW.out.size)) (by omega) _ _
  · exact HNW.out.set2 (HGR.out _ HB1.out) HBW.out.size _ _
theorem rename_any (l : List Fil) (fuse : Int) (hfu : -9223372036854775808 ≤ fuse ∧ fuse ≤ 9223372036854775807) (v : Value) (w : World) (hr : rdF w v l) (frm to : ByteArray) :
    Calls Tryd.prog 33 #[.agg #[v, .int .i64 fuse], .string frm, .string to] w (RetD w (renameD namedD ⟨l, fuse⟩ frm to)) :=
  (rename_anyN l fuse hfu v w hr frm to).mono (fun _ _ h => h.d)
end Go.Proofs.YtmacceamebdelaaDoor
/-! Disk9 -/
namespace Go.Proofs.YtmacceamebdelaaDoor
open Go.RowKit
set_option linter.unusedVariables false
set_option linter.unusedSimpArgs false

theorem readD_1 {d : Dsk} {n : ByteArray} (h : ¬ GoodL namedD d.files) : readD namedD d n = (nilB, 3) := by unfold readD; rw [if_pos h]
theorem readD_2 {d : Dsk} {n : ByteArray} (h : GoodL namedD d.files) (h2 : fget n d.files = none) : readD namedD d n = (nilB, 7) := by unfold readD; rw [if_neg (fun k => k h), h2]
theorem readD_3 {d : Dsk} {n : ByteArray} {f : Fil} (h : GoodL namedD d.files) (h2 : fget n d.files = some f) : readD namedD d n = (f.safe ++ f.tail, 0) := by unfold readD; rw [if_neg (fun k => k h), h2]
set_option maxRecDepth 100000 in
set_option maxHeartbeats 3200000 in
theorem dread_any (l : List Fil) (fuse : Int) (v : Value) (w : World) (hr : rdF w v l) (name : ByteArray) :
    Calls Tryd.prog 40 #[.agg #[v, .int .i64 fuse], .string name] w fun e w' => e = .returned (.tuple #[.string (readD namedD ⟨l, fuse⟩ name).1, .int .i64 (readD namedD ⟨l, fuse⟩ name).2]) ∧ Below w.heap.size w w' := by
  obtain ⟨r, hr0⟩ : ∃ r, r = readD namedD ⟨l, fuse⟩ name := ⟨_, rfl⟩
  rw [← hr0]
  have HRR := Lib.hid hr0
  obtain ⟨ao, cp, rfl⟩ := rd_form hr
  obtain ⟨W, hW⟩ : ∃ W, w.alloc (.cells #[.slice ao l.length cp, .int .i64 fuse] 26) = W := ⟨_, rfl⟩
  have hbW : Below w.heap.size w W := by rw [← hW]; exact (Below.refl _ _).alloc (Nat.le_refl _) _
  have g0 : W.heap[w.heap.size]? = some (.cells #[.slice ao l.length cp, .int .i64 fuse] 26 (0, 0)) := by rw [← hW]; exact heap_alloc_new _ _
  have HG := Lib.hid (fun w' (h : Below W.heap.size W w') => blk_below g0 h)
  have HRD := Lib.hid (hr.below hbW)
  have HGD := Lib.hid (goodD_any l _ fuse W HRD.out)
  have HBW := Lib.hid hbW
  have HFI := Lib.hid (fun w' (h : Below W.heap.size W w') (hg : GoodL namedD l) => find_any l name _ fuse w' hg.srt (HRD.out.below h) (by have := hg.len; omega))
  obtain ⟨c0, c1, z0, z1⟩ := cell_of_two g0
  clear hr hr0 hbW g0
  go_enter Tryd.func40, Tryd.ntmps40
  go_wp2_with fail
  (with_reducible refine HGD.out.mono ?_)
  rintro e w1 ⟨rfl, hb⟩
  have HB1 := Lib.hid hb
  clear hb HGD c0 c1 z0 z1 hW
  obtain ⟨c0, c1, z0, z1⟩ := cell_of_two (HG.out _ HB1.out)
  by_cases hgood : GoodL namedD l
  · rw [goodB_true hgood]
    have HFI2 := Lib.hid (HFI.out _ HB1.out hgood)
    obtain ⟨k, hk⟩ : ∃ k, k = fidx name l := ⟨_, rfl⟩
    rw [← hk] at HFI2
    cases hg : fget name l with
    | none =>
      rw [hg] at HFI2
      have hr1 := HRR.out.trans (readD_2 (d := ⟨l, fuse⟩) hgood hg)
      subst hr1
      clear hg hgood HFI hk
      go_wp2_with fail
      (with_reducible refine HFI2.out.mono ?_)
      rintro e w2 ⟨rfl, hb2⟩
      have HB2 := Lib.hid (HB1.out.trans (hb2.mono HB1.out.size))
      clear hb2
      go_wp2_with fail
      go_ret2
      exact ⟨rfl, HBW.out.trans (HB2.out.mono HBW.out.size)⟩
    | some f =>
      rw [hg] at HFI2
      obtain ⟨h1, h2, _, _⟩ := at_some Fil.name hgood.srt hg
      rw [← show k = idxL Fil.name name l from hk] at h1 h2
      have hr1 := HRR.out.trans (readD_3 (d := ⟨l, fuse⟩) hgood hg)
      subst hr1
      have hsz := hgood.size f (List.mem_of_getElem? h2)
      have hsum : (f.safe.size : Int) + (f.tail.size : Int) ≤ 9223372036854775807 := by omega
      obtain ⟨b, off, hae, hblt, hcell⟩ := rdF_at HRD.out (by omega)
      subst hae
      have hcell := hcell k h1
      rw [List.getD, h2] at hcell
      simp only [Option.getD_some] at hcell
      have HCE := Lib.hid hcell
      have hki : (k : Int) < (l.length : Int) := by omega
      clear hg hgood HFI hk h2 hcell hsz
      go_wp2_with fail
      (with_reducible refine HFI2.out.mono ?_)
      rintro e w2 ⟨rfl, hb2⟩
      have HB2 := Lib.hid (HB1.out.trans (hb2.mono HB1.out.size))
      clear hb2 c0 c1 z0 z1
      obtain ⟨c0, c1, z0, z1⟩ := cell_of_two (HG.out _ HB2.out)
      have s1 := (HB2.out.cell (p := ⟨b, off + k * 3 + 1, none⟩) hblt).trans HCE.out.2.1
      have s2 := (HB2.out.cell (p := ⟨b, off + k * 3 + 2, none⟩) hblt).trans HCE.out.2.2
      go_wp2_with fail
      go_region
      go_wp2_with fail
      go_ret2
      exact ⟨rfl, HBW.out.trans (HB2.out.drew.mono HBW.out.size)⟩
  · rw [goodB_false hgood]
    have hr1 := HRR.out.trans (readD_1 (d := ⟨l, fuse⟩) hgood)
    subst hr1
    clear hgood HFI
    go_wp2_with fail
    go_ret2
    exact ⟨rfl, HBW.out.trans (HB1.out.mono HBW.out.size)⟩

/-! Crash. -/
theorem crash_next {α : Type} {cf : α → α} {l : List α} {k : Nat} {x : α} (h : l[k]? = some x) :
    ((l.take k).map cf ++ l.drop k).take k ++ cf x :: ((l.take k).map cf ++ l.drop k).drop (k + 1) = (l.take (k + 1)).map cf ++ l.drop (k + 1) := by
  obtain ⟨hl, hx⟩ := List.getElem?_eq_some_iff.1 h
  have e1 : ((l.take k).map cf).length = k := by simp; omega
  have e2 : l.drop k = x :: l.drop (k + 1) := by rw [← hx]; exact List.drop_eq_getElem_cons hl
  have e3 : l.take (k + 1) = l.take k ++ [x] := by rw [List.take_add_one, h]; rfl
  rw [e2, e3, List.map_append, List.map_singleton]
  have e4 : ((l.take k).map cf ++ x :: l.drop (k + 1)).take k = (l.take k).map cf := by
    conv => lhs; arg 1; rw [← e1]
    exact List.take_left
  have e5 : ((l.take k).map cf ++ x :: l.drop (k + 1)).drop (k + 1) = l.drop (k + 1) := by
    rw [show k + 1 = ((l.take k).map cf).length + 1 by omega, List.drop_append]
    simp
  rw [e4, e5, List.append_assoc]
  rfl
theorem crashD_1 {d : Dsk} {k : Int} (h : ¬ GoodL namedD d.files ∨ k < 0) : crashD namedD d k = (d, 3) := by unfold crashD; rw [if_pos h]
theorem crashD_2 {d : Dsk} {k : Int} (h : GoodL namedD d.files) (h2 : ¬ k < 0) : crashD namedD d k = (⟨d.files.map (crashFil k.toNat), -1⟩, 0) := by unfold crashD; rw [if_neg (fun h' => h'.elim (fun j => j h) h2)]
set_option maxRecDepth 100000 in
set_option maxHeartbeats 3200000 in
theorem crash_anyN (l : List Fil) (fuse : Int) (v : Value) (w : World) (hr : rdF w v l) (keep : Int) (hkr : -9223372036854775808 ≤ keep ∧ keep ≤ 9223372036854775807) :
    Calls Tryd.prog 19 #[.agg #[v, .int .i64 fuse], .int .i64 keep] w (RetN w v l (crashD namedD ⟨l, fuse⟩ keep)) := by
  obtain ⟨r, hr0⟩ : ∃ r, r = crashD namedD ⟨l, fuse⟩ keep := ⟨_, rfl⟩
  rw [← hr0]
  have HRR := Lib.hid hr0
  obtain ⟨ao, cp, hv⟩ := rd_form hr
  subst hv
  have HR := Lib.hid hr
  obtain ⟨W, hW⟩ : ∃ W, (w.alloc (.cells #[.slice ao l.length cp, .int .i64 fuse] 26)).alloc (.cells #[.slice none 0 0, .int .i64 0] 26) = W := ⟨_, rfl⟩
  have hbW : Below w.heap.size w W := by rw [← hW]; exact ((Below.refl _ _).alloc (Nat.le_refl _) _).alloc (by simp) _
  have g0 : W.heap[w.heap.size]? = some (.cells #[.slice ao l.length cp, .int .i64 fuse] 26 (0, 0)) := by rw [← hW]; exact heap_old (heap_alloc_new _ _)
  have g1 : W.heap[w.heap.size + 1]? = some (.cells #[.slice none 0 0, .int .i64 0] 26 (0, 0)) := by rw [← hW]; exact heap_new (by simp)
  have HBW := Lib.hid hbW
  have HSZ := Lib.hid (show w.heap.size + 2 ≤ W.heap.size by rw [← hW]; simp)
  have HG0 := Lib.hid (fun w' (h : Below W.heap.size W w') => blk_below g0 h)
  have HG1 := Lib.hid (fun w' (h : Below W.heap.size W w') => blk_below g1 h)
  have HGD := Lib.hid (goodD_any l _ fuse W (hr.below hbW))
  obtain ⟨c0, c1, z0, z1⟩ := cell_of_two g0
  clear hr hr0 hbW g0 g1
  go_enter Tryd.func19, Tryd.ntmps19
  go_wp2_with fail
  (with_reducible refine HGD.out.mono ?_)
  rintro e w1 ⟨rfl, hb⟩
  have HB1 := Lib.hid hb
  clear hb HGD c0 c1 z0 z1 hW
  obtain ⟨c0, c1, z0, z1⟩ := cell_of_two (HG0.out _ HB1.out)
  obtain ⟨d0, d1, y0, y1⟩ := cell_of_two (HG1.out _ HB1.out)
  by_cases hgood : GoodL namedD l
  · rw [goodB_true hgood]
    by_cases hneg : keep < 0
    · have hd : decide (keep < 0) = true := decide_eq_true hneg
      have hr1 := HRR.out.trans (crashD_1 (d := ⟨l, fuse⟩) (.inr hneg))
      subst hr1
      clear hgood hneg
      go_wp2_with fail
      have hT := two_setCell1 (u := .int .i64 (fuse)) (two_setCell0 (u := .slice ao l.length cp) (HG1.out _ HB1.out))
      obtain ⟨e0, e1, _, _⟩ := cell_of_two hT
      refine bodyPost_ret (v := .tuple #[.agg #[.slice ao l.length cp, .int .i64 (fuse)], .int .i64 (3)]) ?_ rfl ⟨.slice ao l.length cp, rfl, HR.out.below (set2_below (HBW.out.trans (HB1.out.mono HBW.out.size)) (Nat.le_succ _) _ _), set2_below (HBW.out.trans (HB1.out.mono HBW.out.size)) (Nat.le_succ _) _ _, .inl ⟨rfl, rfl⟩⟩
      simp [results, Tryd.f19, go_sem, e0, e1]
    · have hd : decide (keep < 0) = false := decide_eq_false hneg
      have HGOOD := Lib.hid hgood
      have hr1 := HRR.out.trans (crashD_2 (d := ⟨l, fuse⟩) hgood hneg)
      subst hr1
      have HL48 := Lib.hid (show l.length * 48 ≤ 140737488355328 by have := hgood.len; omega)
      have hk0 : 0 ≤ keep := by omega
      have HCLO := Lib.hid (clone_any l _ w1 (HR.out.below (HBW.out.trans (HB1.out.mono HBW.out.size))) HL48.out)
      clear hgood hneg
      go_wp2_with fail
      (with_reducible refine HCLO.out.mono ?_)
      rintro e w2 ⟨cv, rfl, hown, hb2⟩
      have HB2 := Lib.hid (HB1.out.trans (hb2.mono HB1.out.size))
      obtain ⟨ao2, cp2, rfl⟩ := rd_form (rdRow_of_owns hown)
      have hge : W.heap.size ≤ w2.heap.size := HB2.out.size
      obtain ⟨w3, hw3⟩ : ∃ w3, w2.alloc (.cells #[.slice ao2 l.length cp2, .int .i64 (-1)] 26) = w3 := ⟨_, rfl⟩
      have hG3 : w3.heap[w2.heap.size]? = some (.cells #[.slice ao2 l.length cp2, .int .i64 (-1)] 26 (0, 0)) := by rw [← hw3]; exact heap_alloc_new _ _
      have HO3 := Lib.hid (show w3.ownsRow W.heap.size 92 3 (.slice ao2 l.length cp2) l.length (fvs l) by rw [← hw3]; exact (owns_base hown HB1.out.size).alloc _)
      have HB3 := Lib.hid (show Below W.heap.size W w3 by rw [← hw3]; exact HB2.out.alloc HB2.out.size _)
      have HG3 := Lib.hid hG3
      have HGE := Lib.hid hge
      clear hown hb2 c0 c1 z0 z1 d0 d1 y0 y1 hge
      obtain ⟨c0, c1, z0, z1⟩ := cell_of_two hG3
      clear hG3
      go_wp2_with fail
      clear hw3
      clear c0 c1 z0 z1
      have hl4 := HGOOD.out.len
      go_loopw [24] (fun s24 wr => ∃ k : Nat, k ≤ l.length ∧ s24 = .int .i64 (k : Int) ∧ Hid (wr.ownsRow W.heap.size 92 3 (.slice ao2 l.length cp2) l.length (fvs ((l.take k).map (crashFil keep.toNat) ++ l.drop k))) ∧ Hid (wr.heap[w2.heap.size]? = some (.cells #[.slice ao2 l.length cp2, .int .i64 (-1)] 26 (0, 0))) ∧ Hid (Below W.heap.size W wr)) (fun s24 _ => l.length - (intOf s24).toNat)
      case atStart => exact ⟨0, Nat.zero_le _, rfl, HO3, HG3, HB3⟩
      case round =>
        clear HO3 HG3 HB3
        obtain ⟨k, hk, rfl, HO3, HG3, HB3⟩ := hrel
        obtain ⟨c0, c1, z0, z1⟩ := cell_of_two HG3.out
        by_cases hlt : k < l.length
        · have hki : (k : Int) < (l.length : Int) := by omega
          have hkb : decide ((k : Int) < (l.length : Int)) = true := decide_eq_true hki
          obtain ⟨M, hM⟩ : ∃ M, M = (l.take k).map (crashFil keep.toNat) ++ l.drop k := ⟨_, rfl⟩
          obtain ⟨x, hx⟩ : ∃ x, x = l.getD k zeroFil := ⟨_, rfl⟩
          have hxl : l[k]? = some x := by rw [hx, List.getD, List.getElem?_eq_getElem hlt]; rfl
          have hMl : M.length = l.length := by rw [hM]; simp; omega
          have hMx : M[k]? = some x := by rw [hM, List.getElem?_append_right (by simp [Nat.min_eq_left hk]), List.getElem?_drop]; simp [Nat.min_eq_left hk, hxl]
          have hO4 : wr.ownsRow W.heap.size 92 3 (.slice ao2 M.length cp2) M.length (fvs M) := by rw [hMl, hM]; exact HO3.out
          have hgf := hO4
          obtain ⟨g, cp', hv, hcp⟩ := own_form hO4 (by omega)
          simp only [Value.slice.injEq, true_and] at hv
          obtain ⟨rfl, rfl⟩ := hv
          obtain ⟨s0, s1, s2, sf⟩ := own_cells hO4 hMx
          have sf1 := sf (k * 3 + 1)
          have sf2 := sf (k * 3 + 2)
          have hxs := HGOOD.out.size x (List.mem_of_getElem? hxl)
          obtain ⟨m, hm⟩ : ∃ m, m = min keep.toNat x.tail.size := ⟨_, rfl⟩
          have hmin : min keep (x.tail.size : Int) = (m : Int) := by omega
          have hml : (m : Int) ≤ (x.tail.size : Int) := by omega
          have hm0 : (0 : Int) ≤ (m : Int) := by omega
          have hsum : (x.safe.size : Int) + ((x.tail.extract 0 m).size : Int) ≤ 9223372036854775807 := by rw [ByteArray.size_extract]; omega
          have HXL := Lib.hid hxl
          have HMX := Lib.hid hMx
          have HML := Lib.hid hMl
          have HMM := Lib.hid hM
          have HO4 := Lib.hid hO4
          have HMIN := Lib.hid hm
          clear sf hgf hxs hx hxl hMx hMl hM hO4 hm HO3
          go_wp2_with fail
          go_region
          have HUP := Lib.hid (((Upd.refl (fun i => i = g) wr).setCell (a := ⟨g, k * 3 + 1, none⟩) (.inl rfl) (.string (x.safe ++ x.tail.extract 0 m))).setCell (a := ⟨g, k * 3 + 2, none⟩) (.inl rfl) (.string ⟨#[]⟩))
          have hgB : W.heap.size ≤ g := (HO4.out.lt g rfl).1
          have HGN := Lib.hid (show w2.heap.size ≠ g from fun e => owns_ne (e := 92) (t := 26) HO4.out HG3.out (by decide) (by rw [e]; rfl))
          have h := own_set (own_set HO4.out (k * 3 + 1) (.string (x.safe ++ x.tail.extract 0 m))) (k * 3 + 2) (.string ⟨#[]⟩)
          rw [show (⟨#[]⟩ : ByteArray) = nilB from rfl, fvs_put2 HMX.out ⟨x.name, x.safe ++ x.tail.extract 0 m, nilB⟩ rfl, show (⟨x.name, x.safe ++ x.tail.extract 0 m, nilB⟩ : Fil) = crashFil keep.toNat x by rw [HMIN.out]; rfl, HMM.out, crash_next HXL.out, ← HMM.out, HML.out] at h
          have HOF := Lib.hid h
          have HGF := Lib.hid (blk_upd (S := fun i => i = g) HG3.out HUP.out HGN.out)
          have HBF := Lib.hid (HB3.out.trans (HUP.out.below HB3.out.size (fun i hi => by rw [hi]; exact hgB)))
          clear h c0 c1 z0 z1 s0 s1 s2 sf1 sf2 hmin hml hm0 hsum
          go_wp2_with fail
          go_roundw
          case rel => exact ⟨k + 1, by omega, by first | rfl | go_num, HOF, HGF, Lib.hid HBF.out.drew⟩
          case measure => simp [intOf]; omega
        · obtain rfl : k = l.length := by omega
          have hkb : decide ((l.length : Int) < (l.length : Int)) = false := by simp
          obtain ⟨d0, d1, y0, y1⟩ := cell_of_two (HG1.out _ HB3.out)
          have hlist : (l.take l.length).map (crashFil keep.toNat) ++ l.drop l.length = l.map (crashFil keep.toNat) := by rw [List.take_length, List.drop_length, List.append_nil]
          have HOF := Lib.hid (show wr.ownsRow W.heap.size 92 3 (.slice ao2 l.length cp2) (l.map (crashFil keep.toNat)).length (fvs (l.map (crashFil keep.toNat))) by rw [List.length_map, ← hlist]; exact HO3.out)
          clear hlist HO3
          go_wp2_with fail
          have hgf := two_setCell1 (u := .int .i64 (-1)) (two_setCell0 (u := .slice ao2 l.length cp2) (HG1.out _ HB3.out))
          obtain ⟨e0, e1, _, _⟩ := cell_of_two hgf
          have hbf := set2_below (HBW.out.trans (HB3.out.mono HBW.out.size)) (g := w.heap.size + 1) (Nat.le_succ _) (.slice ao2 l.length cp2) (.int .i64 (-1))
          refine bodyPost_ret (v := .tuple #[.agg #[.slice ao2 l.length cp2, .int .i64 (-1)], .int .i64 0]) ?_ rfl ⟨_, rfl, rdF_owns (owns_setCell (owns_setCell HOF.out (owns_ne (e := 92) (t := 26) HOF.out (HG1.out _ HB3.out) (by decide)) _) (owns_ne (e := 92) (t := 26) HOF.out (HG1.out _ HB3.out) (by decide)) _), hbf, .inr (owns_base (owns_setCell (owns_setCell HOF.out (owns_ne (e := 92) (t := 26) HOF.out (HG1.out _ HB3.out) (by decide)) _) (owns_ne (e := 92) (t := 26) HOF.out (HG1.out _ HB3.out) (by decide)) _) HBW.out.size)⟩
          simp [results, Tryd.f19, go_sem, e0, e1]
  · rw [goodB_false hgood]
    have hr1 := HRR.out.trans (crashD_1 (d := ⟨l, fuse⟩) (.inl hgood))
    subst hr1
    clear hgood
    go_wp2_with fail
    have hT := two_setCell1 (u := .int .i64 (fuse)) (two_setCell0 (u := .slice ao l.length cp) (HG1.out _ HB1.out))
    obtain ⟨e0, e1, _, _⟩ := cell_of_two hT
    refine bodyPost_ret (v := .tuple #[.agg #[.slice ao l.length cp, .int .i64 (fuse)], .int .i64 (3)]) ?_ rfl ⟨.slice ao l.length cp, rfl, HR.out.below (set2_below (HBW.out.trans (HB1.out.mono HBW.out.size)) (Nat.le_succ _) _ _), set2_below (HBW.out.trans (HB1.out.mono HBW.out.size)) (Nat.le_succ _) _ _, .inl ⟨rfl, rfl⟩⟩
    simp [results, Tryd.f19, go_sem, e0, e1]
theorem crash_any (l : List Fil) (fuse : Int) (v : Value) (w : World) (hr : rdF w v l) (keep : Int) (hkr : -9223372036854775808 ≤ keep ∧ keep ≤ 9223372036854775807) :
    Calls Tryd.prog 19 #[.agg #[v, .int .i64 fuse], .int .i64 keep] w (RetD w (crashD namedD ⟨l, fuse⟩ keep)) :=
  (crash_anyN l fuse v w hr keep hkr).mono (fun _ _ h => h.d)
end Go.Proofs.YtmacceamebdelaaDoor
/-! Disk10 -/
namespace Go.Proofs.YtmacceamebdelaaDoor
open Go.RowKit
set_option linter.unusedVariables false
set_option linter.unusedSimpArgs false

theorem step_fuse {d : Dsk} {op : List Fil → List Fil × Int} {l : List Fil} {f e : Int} (h : ((⟨l, f⟩, e) : Dsk × Int) = stepD namedD d op) (hf : -9223372036854775808 ≤ d.fuse ∧ d.fuse ≤ 9223372036854775807) : -9223372036854775808 ≤ f ∧ f ≤ 9223372036854775807 := by
  rcases step_cases namedD d op with ⟨h1, _⟩ | ⟨_, _, _, h1⟩
  · have : f = d.fuse := by rw [← h1, ← h]
    omega
  · have : f = if 0 < d.fuse then d.fuse - 1 else d.fuse := by have := congrArg (fun q : Dsk × Int => q.1.fuse) (h.trans h1); exact this
    split at this <;> omega
theorem named_sizeD {s : ByteArray} (h : namedD s = true) : s.size ≤ 80 := by
  unfold namedD at h
  simp only [Bool.and_eq_true, decide_eq_true_eq] at h
  exact h.2.1
noncomputable def tailS (d : Dsk) (name s : ByteArray) : Dsk × Int :=
  if (writeD namedD d (name ++ dotNew) s).2 ≠ 0 then writeD namedD d (name ++ dotNew) s else
  if (syncD namedD (writeD namedD d (name ++ dotNew) s).1 (name ++ dotNew)).2 ≠ 0 then syncD namedD (writeD namedD d (name ++ dotNew) s).1 (name ++ dotNew) else
  renameD namedD (syncD namedD (writeD namedD d (name ++ dotNew) s).1 (name ++ dotNew)).1 (name ++ dotNew) name
theorem tail_1 {d : Dsk} {name s : ByteArray} {q : Dsk × Int} (h : q = writeD namedD d (name ++ dotNew) s) (h2 : q.2 ≠ 0) : tailS d name s = q := by
  unfold tailS; rw [← h, if_pos h2]
theorem tail_2 {d : Dsk} {name s : ByteArray} {q p : Dsk × Int} (h : q = writeD namedD d (name ++ dotNew) s) (h2 : q.2 = 0) (h3 : p = syncD namedD q.1 (name ++ dotNew)) (h4 : p.2 ≠ 0) : tailS d name s = p := by
  unfold tailS; rw [← h, if_neg (fun k => k h2), ← h3, if_pos h4]
theorem tail_3 {d : Dsk} {name s : ByteArray} {q p : Dsk × Int} (h : q = writeD namedD d (name ++ dotNew) s) (h2 : q.2 = 0) (h3 : p = syncD namedD q.1 (name ++ dotNew)) (h4 : p.2 = 0) : tailS d name s = renameD namedD p.1 (name ++ dotNew) name := by
  unfold tailS; rw [← h, if_neg (fun k => k h2), ← h3, if_neg (fun k => k h4)]
theorem save_1 {d : Dsk} {name s : ByteArray} (h : ¬ GoodL namedD d.files) : saveD namedD d name s = (d, 3) := by unfold saveD; rw [if_pos h]
theorem save_2 {d : Dsk} {name s : ByteArray} (h : GoodL namedD d.files) (h2 : namedD name = false ∨ namedD (name ++ dotNew) = false) : saveD namedD d name s = (d, 2) := by unfold saveD; rw [if_neg (fun k => k h), if_pos h2]
theorem save_3 {d : Dsk} {name s : ByteArray} (h : GoodL namedD d.files) (h2 : ¬ (namedD name = false ∨ namedD (name ++ dotNew) = false)) (h3 : fget (name ++ dotNew) d.files = none) : saveD namedD d name s = tailS d name s := by
  unfold saveD tailS
  rw [if_neg (fun k => k h), if_neg h2, if_pos h3]
  simp only
  rw [if_neg (fun k => k rfl)]
theorem save_4 {d : Dsk} {name s : ByteArray} {q : Dsk × Int} (h : GoodL namedD d.files) (h2 : ¬ (namedD name = false ∨ namedD (name ++ dotNew) = false)) (h3 : fget (name ++ dotNew) d.files ≠ none) (h4 : q = removeD namedD d (name ++ dotNew)) (h5 : q.2 ≠ 0) : saveD namedD d name s = q := by
  unfold saveD
  rw [if_neg (fun k => k h), if_neg h2, if_neg h3, ← h4]
  simp only
  rw [if_pos h5]
theorem save_5 {d : Dsk} {name s : ByteArray} {q : Dsk × Int} (h : GoodL namedD d.files) (h2 : ¬ (namedD name = false ∨ namedD (name ++ dotNew) = false)) (h3 : fget (name ++ dotNew) d.files ≠ none) (h4 : q = removeD namedD d (name ++ dotNew)) (h5 : q.2 = 0) : saveD namedD d name s = tailS q.1 name s := by
  unfold saveD tailS
  rw [if_neg (fun k => k h), if_neg h2, if_neg h3, ← h4]
  simp only
  rw [if_neg (fun k => k h5)]
set_option maxRecDepth 100000 in
set_option maxHeartbeats 3200000 in
theorem save_anyN (l0 : List Fil) (f0 : Int) (hfu : -9223372036854775808 ≤ f0 ∧ f0 ≤ 9223372036854775807) (v : Value) (w : World) (hr : rdF w v l0) (name s : ByteArray) :
    Calls Tryd.prog 15 #[.agg #[v, .int .i64 f0], .string name, .string s] w (RetN w v l0 (saveD namedD ⟨l0, f0⟩ name s)) := by
  obtain ⟨r, hr0⟩ : ∃ r, r = saveD namedD ⟨l0, f0⟩ name s := ⟨_, rfl⟩
  rw [← hr0]
  have HRR := Lib.hid hr0
  obtain ⟨a0, p0, hv⟩ := rd_form hr
  subst hv
  obtain ⟨W, hW⟩ : ∃ W, (w.alloc (.cells #[.slice a0 l0.length p0, .int .i64 f0] 26)).alloc (.cells #[.slice none 0 0, .int .i64 0] 26) = W := ⟨_, rfl⟩
  have hbW : Below w.heap.size w W := by rw [← hW]; exact ((Below.refl _ _).alloc (Nat.le_refl _) _).alloc (by simp) _
  have g0 : W.heap[w.heap.size]? = some (.cells #[.slice a0 l0.length p0, .int .i64 f0] 26 (0, 0)) := by rw [← hW]; exact heap_old (heap_alloc_new _ _)
  have g1 : W.heap[w.heap.size + 1]? = some (.cells #[.slice none 0 0, .int .i64 0] 26 (0, 0)) := by rw [← hW]; exact heap_new (by simp)
  have HBW := Lib.hid hbW
  have HG := Lib.hid (fun w' (h : Below W.heap.size W w') => blk_below g0 h)
  have HZ := Lib.hid (fun w' (h : Below W.heap.size W w') => blk_below g1 h)
  have HGD := Lib.hid (goodD_any l0 _ f0 W (hr.below hbW))
  have HRW := Lib.hid (hr.below hbW)
  have HF0 := Lib.hid hfu
  obtain ⟨c0, c1, z0, z1⟩ := cell_of_two g0
  clear hr hr0 hbW g0 g1 hfu
  go_enter Tryd.func15, Tryd.ntmps15
  go_wp2_with fail
  (with_reducible refine HGD.out.mono ?_)
  rintro e w1 ⟨rfl, hb⟩
  clear HGD c0 c1 z0 z1 hW
  by_cases hgood : GoodL namedD l0
  · rw [goodB_true hgood]
    obtain ⟨nm1, hnm1⟩ : ∃ b, b = namedD name := ⟨_, rfl⟩
    have HN1 := Lib.hid (namedD_any name w1)
    rw [← hnm1] at HN1
    go_wp2_with fail
    (with_reducible refine HN1.out.mono ?_)
    rintro e w2 ⟨rfl, hb2⟩
    have HC2 := Lib.hid (hb.trans (hb2.mono hb.size))
    have HM1 := Lib.hid hnm1.symm
    clear hb hb2 HN1 hnm1
    cases nm1 with
    | false =>
      have HG0 := Lib.hid (HG.out _ HC2.out)
      have HZ0 := Lib.hid (HZ.out _ HC2.out)
      have HR0 := Lib.hid (HRW.out.below HC2.out)
      have HB0 := Lib.hid (HBW.out.trans ((HC2.out).mono HBW.out.size))
      have HNW0 := Lib.hid (show NewF w.heap.size w2 (.slice a0 l0.length p0) (.slice a0 l0.length p0) l0 l0 from .inl ⟨rfl, rfl⟩)
      obtain ⟨c0, c1, z0, z1⟩ := cell_of_two HG0.out
      obtain ⟨d0, d1, y0, y1⟩ := cell_of_two HZ0.out
      have hr1 := HRR.out.trans (save_2 (d := ⟨l0, f0⟩) hgood (.inl HM1.out))
      subst hr1
      go_wp2_with fail
      have hgf := two_setCell1 (u := .int .i64 f0) (two_setCell0 (u := .slice a0 l0.length p0) HZ0.out)
      obtain ⟨e0, e1, _, _⟩ := cell_of_two hgf
      have hbf := set2_below HB0.out (g := w.heap.size + 1) (Nat.le_succ _) (.slice a0 l0.length p0) (.int .i64 f0)
      refine bodyPost_ret (v := .tuple #[.agg #[.slice a0 l0.length p0, .int .i64 f0], .int .i64 (2)]) ?_ rfl ⟨_, rfl, rdF_upd HR0.out (set2_upd _ _) (no_str HZ0.out), hbf, HNW0.out.set2 HZ0.out (Nat.le_refl _) _ _⟩
      simp [results, Tryd.f15, go_sem, e0, e1]
    | true =>
      have hsum : (name.size : Int) + 4 ≤ 9223372036854775807 := by have := named_sizeD HM1.out; omega
      obtain ⟨nn, hnn⟩ : ∃ nn, name ++ (⟨#[46, 110, 101, 119]⟩ : ByteArray) = nn := ⟨_, rfl⟩
      have HNN := Lib.hid (show name ++ dotNew = nn from hnn)
      obtain ⟨nm2, hnm2⟩ : ∃ b, b = namedD nn := ⟨_, rfl⟩
      have HN2 := Lib.hid (namedD_any nn w2)
      rw [← hnm2] at HN2
      have HM2 := Lib.hid hnm2.symm
      clear hnm2
      go_wp2_with fail
      (with_reducible refine HN2.out.mono ?_)
      rintro e w3 ⟨rfl, hb3⟩
      have HC3 := Lib.hid (HC2.out.trans (hb3.mono HC2.out.size))
      clear hb3 HN2
      cases nm2 with
      | false =>
        have HG0 := Lib.hid (HG.out _ HC3.out)
        have HZ0 := Lib.hid (HZ.out _ HC3.out)
        have HR0 := Lib.hid (HRW.out.below HC3.out)
        have HB0 := Lib.hid (HBW.out.trans ((HC3.out).mono HBW.out.size))
        have HNW0 := Lib.hid (show NewF w.heap.size w3 (.slice a0 l0.length p0) (.slice a0 l0.length p0) l0 l0 from .inl ⟨rfl, rfl⟩)
        obtain ⟨c0, c1, z0, z1⟩ := cell_of_two HG0.out
        obtain ⟨d0, d1, y0, y1⟩ := cell_of_two HZ0.out
        have hr1 := HRR.out.trans (save_2 (d := ⟨l0, f0⟩) hgood (.inr (by rw [HNN.out]; exact HM2.out)))
        subst hr1
        go_wp2_with fail
        have hgf := two_setCell1 (u := .int .i64 f0) (two_setCell0 (u := .slice a0 l0.length p0) HZ0.out)
        obtain ⟨e0, e1, _, _⟩ := cell_of_two hgf
        have hbf := set2_below HB0.out (g := w.heap.size + 1) (Nat.le_succ _) (.slice a0 l0.length p0) (.int .i64 f0)
        refine bodyPost_ret (v := .tuple #[.agg #[.slice a0 l0.length p0, .int .i64 f0], .int .i64 (2)]) ?_ rfl ⟨_, rfl, rdF_upd HR0.out (set2_upd _ _) (no_str HZ0.out), hbf, HNW0.out.set2 HZ0.out (Nat.le_refl _) _ _⟩
        simp [results, Tryd.f15, go_sem, e0, e1]
      | true =>
        have HNO := Lib.hid (show ¬ (namedD name = false ∨ namedD (name ++ dotNew) = false) by rw [HNN.out, HM1.out, HM2.out]; simp)
        have HGOOD := Lib.hid hgood
        have HG0 := Lib.hid (HG.out _ HC3.out)
        have HZ0 := Lib.hid (HZ.out _ HC3.out)
        have HR0 := Lib.hid (HRW.out.below HC3.out)
        have HB0 := Lib.hid (HBW.out.trans ((HC3.out).mono HBW.out.size))
        have HNW0 := Lib.hid (show NewF w.heap.size w3 (.slice a0 l0.length p0) (.slice a0 l0.length p0) l0 l0 from .inl ⟨rfl, rfl⟩)
        obtain ⟨c0, c1, z0, z1⟩ := cell_of_two HG0.out
        obtain ⟨d0, d1, y0, y1⟩ := cell_of_two HZ0.out
        have HFI := Lib.hid (find_any l0 nn _ f0 w3 hgood.srt HR0.out (by have := hgood.len; omega))
        obtain ⟨k, hk⟩ : ∃ k, k = fidx nn l0 := ⟨_, rfl⟩
        rw [← hk] at HFI
        clear hk hgood
        cases hg : fget nn l0 with
        | none =>
          rw [hg] at HFI
          go_wp2_with fail
          (with_reducible refine HFI.out.mono ?_)
          rintro e x0 ⟨rfl, hb4⟩
          have HC4 := Lib.hid (HC3.out.trans (hb4.mono HC3.out.size))
          clear hb4 HFI HG0 HZ0 HR0 HB0 HNW0
          clear c0 c1 z0 z1 d0 d1 y0 y1
          have HG0 := Lib.hid (HG.out _ HC4.out)
          have HZ0 := Lib.hid (HZ.out _ HC4.out)
          have HR0 := Lib.hid (HRW.out.below HC4.out)
          have HB0 := Lib.hid (HBW.out.trans ((HC4.out).mono HBW.out.size))
          have HNW0 := Lib.hid (show NewF w.heap.size x0 (.slice a0 l0.length p0) (.slice a0 l0.length p0) l0 l0 from .inl ⟨rfl, rfl⟩)
          obtain ⟨c0, c1, z0, z1⟩ := cell_of_two HG0.out
          obtain ⟨d0, d1, y0, y1⟩ := cell_of_two HZ0.out
          have HLAW := Lib.hid (show r = tailS ⟨l0, f0⟩ name s from HRR.out.trans (save_3 (d := ⟨l0, f0⟩) HGOOD.out HNO.out (by rw [HNN.out]; exact hg)))
          obtain ⟨⟨⟨l0w, f0w⟩, e0w⟩, hq0w⟩ : ∃ q : Dsk × Int, q = writeD namedD ⟨l0, f0⟩ (name ++ dotNew) s := ⟨_, rfl⟩
          have HQ0w := Lib.hid hq0w
          have HF0w := Lib.hid (show -9223372036854775808 ≤ f0w ∧ f0w ≤ 9223372036854775807 from step_fuse hq0w HF0.out)
          have hcall := write_anyN l0 f0 HF0.out _ x0 HR0.out (name ++ dotNew) s
          rw [← hq0w, HNN.out] at hcall
          have HCALL := Lib.hid hcall
          clear hcall hq0w
          go_wp2_with fail
          (with_reducible refine (HCALL.out).mono ?_)
          rintro e u0w ⟨v', rfl, hrd, hb, hnw⟩
          obtain ⟨a0w, p0w, rfl⟩ := rd_form hrd
          have hbu := HB0.out.trans (hb.mono HB0.out.size)
          have hgu := blk_below HG0.out hb
          have hzu := blk_below HZ0.out hb
          obtain ⟨x0w, hx0w⟩ : ∃ x, (u0w.setCell ⟨w.heap.size, 0, none⟩ (.slice a0w l0w.length p0w)).setCell ⟨w.heap.size, 1, none⟩ (.int .i64 f0w) = x := ⟨_, rfl⟩
          have HG0w := Lib.hid (show x0w.heap[w.heap.size]? = some (.cells #[.slice a0w l0w.length p0w, .int .i64 f0w] 26 (0, 0)) by rw [← hx0w]; exact two_setCell1 (two_setCell0 hgu))
          have HZ0w := Lib.hid (show x0w.heap[w.heap.size + 1]? = some (.cells #[.slice none 0 0, .int .i64 0] 26 (0, 0)) by rw [← hx0w]; exact blk_upd hzu (set2_updF _ _) (by omega))
          have HR0w := Lib.hid (show rdF x0w (.slice a0w l0w.length p0w) l0w by rw [← hx0w]; exact rdF_upd hrd (set2_updF _ _) (no_str hgu))
          have HB0w := Lib.hid (show Below w.heap.size w x0w by rw [← hx0w]; exact set2_below hbu (Nat.le_refl _) _ _)
          have HNW0w := Lib.hid (show NewF w.heap.size x0w (.slice a0 l0.length p0) (.slice a0w l0w.length p0w) l0 l0w by rw [← hx0w]; exact (HNW0.out.trans hnw hb HB0.out.size).set2 hgu (Nat.le_refl _) _ _)
          clear c0 c1 z0 z1 d0 d1 y0 y1
          obtain ⟨c0, c1, z0, z1⟩ := cell_of_two hgu
          clear hnw hrd hb hbu hgu hzu
          obtain ⟨C0, C1, Z0, Z1⟩ := cell_of_two HG0w.out
          obtain ⟨d0, d1, y0, y1⟩ := cell_of_two HZ0w.out
          skip
          by_cases he : e0w = 0
          · subst he
            clear HCALL
            obtain ⟨⟨⟨l0s, f0s⟩, e0s⟩, hq0s⟩ : ∃ q : Dsk × Int, q = syncD namedD ⟨l0w, f0w⟩ (name ++ dotNew) := ⟨_, rfl⟩
            have HQ0s := Lib.hid hq0s
            have HF0s := Lib.hid (show -9223372036854775808 ≤ f0s ∧ f0s ≤ 9223372036854775807 from step_fuse hq0s HF0w.out)
            have hcall := sync_anyN l0w f0w HF0w.out _ x0w HR0w.out (name ++ dotNew)
            rw [← hq0s, HNN.out] at hcall
            have HCALL := Lib.hid hcall
            clear hcall hq0s
            go_wp2_with fail
            (with_reducible refine (HCALL.out).mono ?_)
            rintro e u0s ⟨v', rfl, hrd, hb, hnw⟩
            obtain ⟨a0s, p0s, rfl⟩ := rd_form hrd
            have hbu := HB0w.out.trans (hb.mono HB0w.out.size)
            have hgu := blk_below HG0w.out hb
            have hzu := blk_below HZ0w.out hb
            obtain ⟨x0s, hx0s⟩ : ∃ x, (u0s.setCell ⟨w.heap.size, 0, none⟩ (.slice a0s l0s.length p0s)).setCell ⟨w.heap.size, 1, none⟩ (.int .i64 f0s) = x := ⟨_, rfl⟩
            have HG0s := Lib.hid (show x0s.heap[w.heap.size]? = some (.cells #[.slice a0s l0s.length p0s, .int .i64 f0s] 26 (0, 0)) by rw [← hx0s]; exact two_setCell1 (two_setCell0 hgu))
            have HZ0s := Lib.hid (show x0s.heap[w.heap.size + 1]? = some (.cells #[.slice none 0 0, .int .i64 0] 26 (0, 0)) by rw [← hx0s]; exact blk_upd hzu (set2_updF _ _) (by omega))
            have HR0s := Lib.hid (show rdF x0s (.slice a0s l0s.length p0s) l0s by rw [← hx0s]; exact rdF_upd hrd (set2_updF _ _) (no_str hgu))
            have HB0s := Lib.hid (show Below w.heap.size w x0s by rw [← hx0s]; exact set2_below hbu (Nat.le_refl _) _ _)
            have HNW0s := Lib.hid (show NewF w.heap.size x0s (.slice a0 l0.length p0) (.slice a0s l0s.length p0s) l0 l0s by rw [← hx0s]; exact (HNW0w.out.trans hnw hb HB0w.out.size).set2 hgu (Nat.le_refl _) _ _)
            clear C0 C1 Z0 Z1 d0 d1 y0 y1 c0 c1 z0 z1
            obtain ⟨c0, c1, z0, z1⟩ := cell_of_two hgu
            clear hnw hrd hb hbu hgu hzu
            obtain ⟨C0, C1, Z0, Z1⟩ := cell_of_two HG0s.out
            obtain ⟨d0, d1, y0, y1⟩ := cell_of_two HZ0s.out
            skip
            by_cases he : e0s = 0
            · subst he
              clear HCALL
              have hr1 := HLAW.out.trans (tail_3 HQ0w.out rfl HQ0s.out rfl)
              obtain ⟨⟨lz, fz⟩, ez⟩ := r
              have hcall := rename_anyN l0s f0s HF0s.out _ x0s HR0s.out (name ++ dotNew) name
              rw [show renameD namedD ⟨l0s, f0s⟩ (name ++ dotNew) name = (⟨lz, fz⟩, ez) from hr1.symm, HNN.out] at hcall
              have HCALL := Lib.hid hcall
              clear hcall hr1 HLAW HRR
              go_wp2_with fail
              (with_reducible refine HCALL.out.mono ?_)
              rintro e uz ⟨v', rfl, hrd, hb, hnw⟩
              obtain ⟨az, pz, rfl⟩ := rd_form hrd
              have HRZ := Lib.hid hrd
              have HNWZ := Lib.hid (HNW0s.out.trans hnw hb HB0s.out.size)
              have HBZ := Lib.hid (HB0s.out.trans (hb.mono HB0s.out.size))
              have HZZ := Lib.hid (blk_below HZ0s.out hb)
              clear C0 C1 Z0 Z1 d0 d1 y0 y1 c0 c1 z0 z1
              clear hnw hb hrd
              obtain ⟨d0, d1, y0, y1⟩ := cell_of_two HZZ.out
              go_wp2_with fail
              have hgf := two_setCell1 (u := .int .i64 fz) (two_setCell0 (u := .slice az lz.length pz) HZZ.out)
              obtain ⟨e0, e1, _, _⟩ := cell_of_two hgf
              have hbf := set2_below HBZ.out (g := w.heap.size + 1) (Nat.le_succ _) (.slice az lz.length pz) (.int .i64 fz)
              refine bodyPost_ret (v := .tuple #[.agg #[.slice az lz.length pz, .int .i64 fz], .int .i64 ez]) ?_ rfl ⟨_, rfl, rdF_upd HRZ.out (set2_upd _ _) (no_str HZZ.out), hbf, HNWZ.out.set2 HZZ.out (Nat.le_refl _) _ _⟩
              simp [results, Tryd.f15, go_sem, e0, e1]
            · have hr1 := HLAW.out.trans (tail_2 HQ0w.out rfl HQ0s.out he)
              subst hr1
              have hn1 : (e0s == 0) = false := beq_eq_false_iff_ne.2 he
              have hn2 : (e0s != 0) = true := by rw [bne, hn1]; rfl
              clear he
              go_wp2_with fail
              clear C0 C1 Z0 Z1 d0 d1 y0 y1 c0 c1 z0 z1
              have hgf := two_setCell1 (u := .int .i64 f0s) (two_setCell0 (u := .slice a0s l0s.length p0s) HZ0s.out)
              obtain ⟨e0, e1, _, _⟩ := cell_of_two hgf
              have hbf := set2_below HB0s.out (g := w.heap.size + 1) (Nat.le_succ _) (.slice a0s l0s.length p0s) (.int .i64 f0s)
              refine bodyPost_ret (v := .tuple #[.agg #[.slice a0s l0s.length p0s, .int .i64 f0s], .int .i64 (e0s)]) ?_ rfl ⟨_, rfl, rdF_upd HR0s.out (set2_upd _ _) (no_str HZ0s.out), hbf, HNW0s.out.set2 HZ0s.out (Nat.le_refl _) _ _⟩
              simp [results, Tryd.f15, go_sem, e0, e1]
          · have hr1 := HLAW.out.trans (tail_1 HQ0w.out he)
            subst hr1
            have hn1 : (e0w == 0) = false := beq_eq_false_iff_ne.2 he
            have hn2 : (e0w != 0) = true := by rw [bne, hn1]; rfl
            clear he
            go_wp2_with fail
            clear C0 C1 Z0 Z1 d0 d1 y0 y1 c0 c1 z0 z1
            have hgf := two_setCell1 (u := .int .i64 f0w) (two_setCell0 (u := .slice a0w l0w.length p0w) HZ0w.out)
            obtain ⟨e0, e1, _, _⟩ := cell_of_two hgf
            have hbf := set2_below HB0w.out (g := w.heap.size + 1) (Nat.le_succ _) (.slice a0w l0w.length p0w) (.int .i64 f0w)
            refine bodyPost_ret (v := .tuple #[.agg #[.slice a0w l0w.length p0w, .int .i64 f0w], .int .i64 (e0w)]) ?_ rfl ⟨_, rfl, rdF_upd HR0w.out (set2_upd _ _) (no_str HZ0w.out), hbf, HNW0w.out.set2 HZ0w.out (Nat.le_refl _) _ _⟩
            simp [results, Tryd.f15, go_sem, e0, e1]
        | some fx =>
          rw [hg] at HFI
          go_wp2_with fail
          (with_reducible refine HFI.out.mono ?_)
          rintro e x0 ⟨rfl, hb4⟩
          have HC4 := Lib.hid (HC3.out.trans (hb4.mono HC3.out.size))
          clear hb4 HFI HG0 HZ0 HR0 HB0 HNW0
          clear c0 c1 z0 z1 d0 d1 y0 y1
          have HG0 := Lib.hid (HG.out _ HC4.out)
          have HZ0 := Lib.hid (HZ.out _ HC4.out)
          have HR0 := Lib.hid (HRW.out.below HC4.out)
          have HB0 := Lib.hid (HBW.out.trans ((HC4.out).mono HBW.out.size))
          have HNW0 := Lib.hid (show NewF w.heap.size x0 (.slice a0 l0.length p0) (.slice a0 l0.length p0) l0 l0 from .inl ⟨rfl, rfl⟩)
          obtain ⟨c0, c1, z0, z1⟩ := cell_of_two HG0.out
          obtain ⟨d0, d1, y0, y1⟩ := cell_of_two HZ0.out
          have HSOME := Lib.hid (show fget (name ++ dotNew) l0 ≠ none by rw [HNN.out, hg]; simp)
          clear hg
          obtain ⟨⟨⟨lm, fm⟩, em⟩, hqm⟩ : ∃ q : Dsk × Int, q = removeD namedD ⟨l0, f0⟩ (name ++ dotNew) := ⟨_, rfl⟩
          have HQm := Lib.hid hqm
          have HFm := Lib.hid (show -9223372036854775808 ≤ fm ∧ fm ≤ 9223372036854775807 from step_fuse hqm HF0.out)
          have hcall := remove_anyN l0 f0 HF0.out _ x0 HR0.out (name ++ dotNew)
          rw [← hqm, HNN.out] at hcall
          have HCALL := Lib.hid hcall
          clear hcall hqm
          go_wp2_with fail
          (with_reducible refine (HCALL.out).mono ?_)
          rintro e um ⟨v', rfl, hrd, hb, hnw⟩
          obtain ⟨am, pm, rfl⟩ := rd_form hrd
          have hbu := HB0.out.trans (hb.mono HB0.out.size)
          have hgu := blk_below HG0.out hb
          have hzu := blk_below HZ0.out hb
          obtain ⟨xm, hxm⟩ : ∃ x, (um.setCell ⟨w.heap.size, 0, none⟩ (.slice am lm.length pm)).setCell ⟨w.heap.size, 1, none⟩ (.int .i64 fm) = x := ⟨_, rfl⟩
          have HGm := Lib.hid (show xm.heap[w.heap.size]? = some (.cells #[.slice am lm.length pm, .int .i64 fm] 26 (0, 0)) by rw [← hxm]; exact two_setCell1 (two_setCell0 hgu))
          have HZm := Lib.hid (show xm.heap[w.heap.size + 1]? = some (.cells #[.slice none 0 0, .int .i64 0] 26 (0, 0)) by rw [← hxm]; exact blk_upd hzu (set2_updF _ _) (by omega))
          have HRm := Lib.hid (show rdF xm (.slice am lm.length pm) lm by rw [← hxm]; exact rdF_upd hrd (set2_updF _ _) (no_str hgu))
          have HBm := Lib.hid (show Below w.heap.size w xm by rw [← hxm]; exact set2_below hbu (Nat.le_refl _) _ _)
          have HNWm := Lib.hid (show NewF w.heap.size xm (.slice a0 l0.length p0) (.slice am lm.length pm) l0 lm by rw [← hxm]; exact (HNW0.out.trans hnw hb HB0.out.size).set2 hgu (Nat.le_refl _) _ _)
          clear c0 c1 z0 z1 d0 d1 y0 y1
          obtain ⟨c0, c1, z0, z1⟩ := cell_of_two hgu
          clear hnw hrd hb hbu hgu hzu
          obtain ⟨C0, C1, Z0, Z1⟩ := cell_of_two HGm.out
          obtain ⟨d0, d1, y0, y1⟩ := cell_of_two HZm.out
          skip
          by_cases he : em = 0
          · subst he
            clear HCALL
            have HLAW := Lib.hid (show r = tailS ⟨lm, fm⟩ name s from HRR.out.trans (save_5 (d := ⟨l0, f0⟩) HGOOD.out HNO.out HSOME.out HQm.out rfl))
            obtain ⟨⟨⟨lmw, fmw⟩, emw⟩, hqmw⟩ : ∃ q : Dsk × Int, q = writeD namedD ⟨lm, fm⟩ (name ++ dotNew) s := ⟨_, rfl⟩
            have HQmw := Lib.hid hqmw
            have HFmw := Lib.hid (show -9223372036854775808 ≤ fmw ∧ fmw ≤ 9223372036854775807 from step_fuse hqmw HFm.out)
            have hcall := write_anyN lm fm HFm.out _ xm HRm.out (name ++ dotNew) s
            rw [← hqmw, HNN.out] at hcall
            have HCALL := Lib.hid hcall
            clear hcall hqmw
            go_wp2_with fail
            (with_reducible refine (HCALL.out).mono ?_)
            rintro e umw ⟨v', rfl, hrd, hb, hnw⟩
            obtain ⟨amw, pmw, rfl⟩ := rd_form hrd
            have hbu := HBm.out.trans (hb.mono HBm.out.size)
            have hgu := blk_below HGm.out hb
            have hzu := blk_below HZm.out hb
            obtain ⟨xmw, hxmw⟩ : ∃ x, (umw.setCell ⟨w.heap.size, 0, none⟩ (.slice amw lmw.length pmw)).setCell ⟨w.heap.size, 1, none⟩ (.int .i64 fmw) = x := ⟨_, rfl⟩
            have HGmw := Lib.hid (show xmw.heap[w.heap.size]? = some (.cells #[.slice amw lmw.length pmw, .int .i64 fmw] 26 (0, 0)) by rw [← hxmw]; exact two_setCell1 (two_setCell0 hgu))
            have HZmw := Lib.hid (show xmw.heap[w.heap.size + 1]? = some (.cells #[.slice none 0 0, .int .i64 0] 26 (0, 0)) by rw [← hxmw]; exact blk_upd hzu (set2_updF _ _) (by omega))
            have HRmw := Lib.hid (show rdF xmw (.slice amw lmw.length pmw) lmw by rw [← hxmw]; exact rdF_upd hrd (set2_updF _ _) (no_str hgu))
            have HBmw := Lib.hid (show Below w.heap.size w xmw by rw [← hxmw]; exact set2_below hbu (Nat.le_refl _) _ _)
            have HNWmw := Lib.hid (show NewF w.heap.size xmw (.slice a0 l0.length p0) (.slice amw lmw.length pmw) l0 lmw by rw [← hxmw]; exact (HNWm.out.trans hnw hb HBm.out.size).set2 hgu (Nat.le_refl _) _ _)
            clear C0 C1 Z0 Z1 d0 d1 y0 y1 c0 c1 z0 z1
            obtain ⟨c0, c1, z0, z1⟩ := cell_of_two hgu
            clear hnw hrd hb hbu hgu hzu
            obtain ⟨C0, C1, Z0, Z1⟩ := cell_of_two HGmw.out
            obtain ⟨d0, d1, y0, y1⟩ := cell_of_two HZmw.out
            skip
            by_cases he : emw = 0
            · subst he
              clear HCALL
              obtain ⟨⟨⟨lms, fms⟩, ems⟩, hqms⟩ : ∃ q : Dsk × Int, q = syncD namedD ⟨lmw, fmw⟩ (name ++ dotNew) := ⟨_, rfl⟩
              have HQms := Lib.hid hqms
              have HFms := Lib.hid (show -9223372036854775808 ≤ fms ∧ fms ≤ 9223372036854775807 from step_fuse hqms HFmw.out)
              have hcall := sync_anyN lmw fmw HFmw.out _ xmw HRmw.out (name ++ dotNew)
              rw [← hqms, HNN.out] at hcall
              have HCALL := Lib.hid hcall
              clear hcall hqms
              go_wp2_with fail
              (with_reducible refine (HCALL.out).mono ?_)
              rintro e ums ⟨v', rfl, hrd, hb, hnw⟩
              obtain ⟨ams, pms, rfl⟩ := rd_form hrd
              have hbu := HBmw.out.trans (hb.mono HBmw.out.size)
              have hgu := blk_below HGmw.out hb
              have hzu := blk_below HZmw.out hb
              obtain ⟨xms, hxms⟩ : ∃ x, (ums.setCell ⟨w.heap.size, 0, none⟩ (.slice ams lms.length pms)).setCell ⟨w.heap.size, 1, none⟩ (.int .i64 fms) = x := ⟨_, rfl⟩
              have HGms := Lib.hid (show xms.heap[w.heap.size]? = some (.cells #[.slice ams lms.length pms, .int .i64 fms] 26 (0, 0)) by rw [← hxms]; exact two_setCell1 (two_setCell0 hgu))
              have HZms := Lib.hid (show xms.heap[w.heap.size + 1]? = some (.cells #[.slice none 0 0, .int .i64 0] 26 (0, 0)) by rw [← hxms]; exact blk_upd hzu (set2_updF _ _) (by omega))
              have HRms := Lib.hid (show rdF xms (.slice ams lms.length pms) lms by rw [← hxms]; exact rdF_upd hrd (set2_updF _ _) (no_str hgu))
              have HBms := Lib.hid (show Below w.heap.size w xms by rw [← hxms]; exact set2_below hbu (Nat.le_refl _) _ _)
              have HNWms := Lib.hid (show NewF w.heap.size xms (.slice a0 l0.length p0) (.slice ams lms.length pms) l0 lms by rw [← hxms]; exact (HNWmw.out.trans hnw hb HBmw.out.size).set2 hgu (Nat.le_refl _) _ _)
              clear C0 C1 Z0 Z1 d0 d1 y0 y1 c0 c1 z0 z1
              obtain ⟨c0, c1, z0, z1⟩ := cell_of_two hgu
              clear hnw hrd hb hbu hgu hzu
              obtain ⟨C0, C1, Z0, Z1⟩ := cell_of_two HGms.out
              obtain ⟨d0, d1, y0, y1⟩ := cell_of_two HZms.out
              skip
              by_cases he : ems = 0
              · subst he
                clear HCALL
                have hr1 := HLAW.out.trans (tail_3 HQmw.out rfl HQms.out rfl)
                obtain ⟨⟨lz, fz⟩, ez⟩ := r
                have hcall := rename_anyN lms fms HFms.out _ xms HRms.out (name ++ dotNew) name
                rw [show renameD namedD ⟨lms, fms⟩ (name ++ dotNew) name = (⟨lz, fz⟩, ez) from hr1.symm, HNN.out] at hcall
                have HCALL := Lib.hid hcall
                clear hcall hr1 HLAW HRR
                go_wp2_with fail
                (with_reducible refine HCALL.out.mono ?_)
                rintro e uz ⟨v', rfl, hrd, hb, hnw⟩
                obtain ⟨az, pz, rfl⟩ := rd_form hrd
                have HRZ := Lib.hid hrd
                have HNWZ := Lib.hid (HNWms.out.trans hnw hb HBms.out.size)
                have HBZ := Lib.hid (HBms.out.trans (hb.mono HBms.out.size))
                have HZZ := Lib.hid (blk_below HZms.out hb)
                clear C0 C1 Z0 Z1 d0 d1 y0 y1 c0 c1 z0 z1
                clear hnw hb hrd
                obtain ⟨d0, d1, y0, y1⟩ := cell_of_two HZZ.out
                go_wp2_with fail
                have hgf := two_setCell1 (u := .int .i64 fz) (two_setCell0 (u := .slice az lz.length pz) HZZ.out)
                obtain ⟨e0, e1, _, _⟩ := cell_of_two hgf
                have hbf := set2_below HBZ.out (g := w.heap.size + 1) (Nat.le_succ _) (.slice az lz.length pz) (.int .i64 fz)
                refine bodyPost_ret (v := .tuple #[.agg #[.slice az lz.length pz, .int .i64 fz], .int .i64 ez]) ?_ rfl ⟨_, rfl, rdF_upd HRZ.out (set2_upd _ _) (no_str HZZ.out), hbf, HNWZ.out.set2 HZZ.out (Nat.le_refl _) _ _⟩
                simp [results, Tryd.f15, go_sem, e0, e1]
              · have hr1 := HLAW.out.trans (tail_2 HQmw.out rfl HQms.out he)
                subst hr1
                have hn1 : (ems == 0) = false := beq_eq_false_iff_ne.2 he
                have hn2 : (ems != 0) = true := by rw [bne, hn1]; rfl
                clear he
                go_wp2_with fail
                clear C0 C1 Z0 Z1 d0 d1 y0 y1 c0 c1 z0 z1
                have hgf := two_setCell1 (u := .int .i64 fms) (two_setCell0 (u := .slice ams lms.length pms) HZms.out)
                obtain ⟨e0, e1, _, _⟩ := cell_of_two hgf
                have hbf := set2_below HBms.out (g := w.heap.size + 1) (Nat.le_succ _) (.slice ams lms.length pms) (.int .i64 fms)
                refine bodyPost_ret (v := .tuple #[.agg #[.slice ams lms.length pms, .int .i64 fms], .int .i64 (ems)]) ?_ rfl ⟨_, rfl, rdF_upd HRms.out (set2_upd _ _) (no_str HZms.out), hbf, HNWms.out.set2 HZms.out (Nat.le_refl _) _ _⟩
                simp [results, Tryd.f15, go_sem, e0, e1]
            · have hr1 := HLAW.out.trans (tail_1 HQmw.out he)
              subst hr1
              have hn1 : (emw == 0) = false := beq_eq_false_iff_ne.2 he
              have hn2 : (emw != 0) = true := by rw [bne, hn1]; rfl
              clear he
              go_wp2_with fail
              clear C0 C1 Z0 Z1 d0 d1 y0 y1 c0 c1 z0 z1
              have hgf := two_setCell1 (u := .int .i64 fmw) (two_setCell0 (u := .slice amw lmw.length pmw) HZmw.out)
              obtain ⟨e0, e1, _, _⟩ := cell_of_two hgf
              have hbf := set2_below HBmw.out (g := w.heap.size + 1) (Nat.le_succ _) (.slice amw lmw.length pmw) (.int .i64 fmw)
              refine bodyPost_ret (v := .tuple #[.agg #[.slice amw lmw.length pmw, .int .i64 fmw], .int .i64 (emw)]) ?_ rfl ⟨_, rfl, rdF_upd HRmw.out (set2_upd _ _) (no_str HZmw.out), hbf, HNWmw.out.set2 HZmw.out (Nat.le_refl _) _ _⟩
              simp [results, Tryd.f15, go_sem, e0, e1]
          · have hr1 := HRR.out.trans (save_4 (d := ⟨l0, f0⟩) HGOOD.out HNO.out HSOME.out HQm.out he)
            subst hr1
            have hn1 : (em == 0) = false := beq_eq_false_iff_ne.2 he
            have hn2 : (em != 0) = true := by rw [bne, hn1]; rfl
            clear he
            go_wp2_with fail
            clear C0 C1 Z0 Z1 d0 d1 y0 y1 c0 c1 z0 z1
            have hgf := two_setCell1 (u := .int .i64 fm) (two_setCell0 (u := .slice am lm.length pm) HZm.out)
            obtain ⟨e0, e1, _, _⟩ := cell_of_two hgf
            have hbf := set2_below HBm.out (g := w.heap.size + 1) (Nat.le_succ _) (.slice am lm.length pm) (.int .i64 fm)
            refine bodyPost_ret (v := .tuple #[.agg #[.slice am lm.length pm, .int .i64 fm], .int .i64 (em)]) ?_ rfl ⟨_, rfl, rdF_upd HRm.out (set2_upd _ _) (no_str HZm.out), hbf, HNWm.out.set2 HZm.out (Nat.le_refl _) _ _⟩
            simp [results, Tryd.f15, go_sem, e0, e1]
  · rw [goodB_false hgood]
    have hr1 := HRR.out.trans (save_1 (d := ⟨l0, f0⟩) hgood)
    subst hr1
    have HG0 := Lib.hid (HG.out _ hb)
    have HZ0 := Lib.hid (HZ.out _ hb)
    have HR0 := Lib.hid (HRW.out.below hb)
    have HB0 := Lib.hid (HBW.out.trans (hb.mono HBW.out.size))
    have HNW0 := Lib.hid (show NewF w.heap.size w1 (.slice a0 l0.length p0) (.slice a0 l0.length p0) l0 l0 from .inl ⟨rfl, rfl⟩)
    obtain ⟨c0, c1, z0, z1⟩ := cell_of_two HG0.out
    obtain ⟨d0, d1, y0, y1⟩ := cell_of_two HZ0.out
    clear hgood hb
    go_wp2_with fail
    have hgf := two_setCell1 (u := .int .i64 f0) (two_setCell0 (u := .slice a0 l0.length p0) HZ0.out)
    obtain ⟨e0, e1, _, _⟩ := cell_of_two hgf
    have hbf := set2_below HB0.out (g := w.heap.size + 1) (Nat.le_succ _) (.slice a0 l0.length p0) (.int .i64 f0)
    refine bodyPost_ret (v := .tuple #[.agg #[.slice a0 l0.length p0, .int .i64 f0], .int .i64 (3)]) ?_ rfl ⟨_, rfl, rdF_upd HR0.out (set2_upd _ _) (no_str HZ0.out), hbf, HNW0.out.set2 HZ0.out (Nat.le_refl _) _ _⟩
    simp [results, Tryd.f15, go_sem, e0, e1]
theorem save_any (l0 : List Fil) (f0 : Int) (hfu : -9223372036854775808 ≤ f0 ∧ f0 ≤ 9223372036854775807) (v : Value) (w : World) (hr : rdF w v l0) (name s : ByteArray) :
    Calls Tryd.prog 15 #[.agg #[v, .int .i64 f0], .string name, .string s] w (RetD w (saveD namedD ⟨l0, f0⟩ name s)) :=
  (save_anyN l0 f0 hfu v w hr name s).mono (fun _ _ h => h.d)
end Go.Proofs.YtmacceamebdelaaDoor
