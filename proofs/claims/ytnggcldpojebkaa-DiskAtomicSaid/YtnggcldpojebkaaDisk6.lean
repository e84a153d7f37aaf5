/- The closure of package disk's Write. -/
import Derived.Test.YtnggcldpojebkaaDisk5
import Derived.Deep.RegionWith
namespace Go.Proofs.Ytnggcldpojebkaa
open Go.RowKit
set_option linter.unusedVariables false
set_option linter.unusedSimpArgs false

theorem take_mid {α : Type} {l : List α} {k : Nat} (hk : k ≤ l.length) {x : α} {r : List α} : (l.take k ++ x :: r).take k = l.take k := by
  have h : (l.take k).length = k := by simp [Nat.min_eq_left hk]
  conv => lhs; arg 1; rw [← h]
  exact List.take_left
theorem drop_mid {α : Type} {l : List α} {k : Nat} (hk : k ≤ l.length) {x : α} {r : List α} : (l.take k ++ x :: r).drop (k + 1) = r := by
  have h : (l.take k).length = k := by simp [Nat.min_eq_left hk]
  rw [show k + 1 = (l.take k).length + 1 by omega, List.drop_append]
  simp
theorem mid_get {α : Type} {l : List α} {k : Nat} (hk : k ≤ l.length) {x : α} {r : List α} : (l.take k ++ x :: r)[k]? = some x := by
  have h : (l.take k).length = k := by simp [Nat.min_eq_left hk]
  rw [List.getElem?_append_right (by omega), h, Nat.sub_self]
  rfl
theorem three_one (a b c : ByteArray) : ∀ u ∈ (#[.string a, .string b, .string c] : Array Value).toList, u.oneCell' = true := by
  intro u hu
  simp at hu
  rcases hu with rfl | rfl | rfl <;> rfl
theorem nil_app (s : ByteArray) : nilB ++ s = s := by
  apply ByteArray.ext
  simp [nilB]
theorem writeO_1 {l : List Fil} {n s : ByteArray} (h : namedD n = false) : writeO namedD n s l = (l, 2) := by unfold writeO; rw [if_pos h]
theorem writeO_2 {l : List Fil} {n s : ByteArray} (h : namedD n = true) (h2 : fget n l = none) (h3 : 400 ≤ l.length) : writeO namedD n s l = (l, 6) := by
  unfold writeO; rw [if_neg (by rw [h]; decide), h2]; simp only; rw [if_pos h3]
theorem writeO_3 {l : List Fil} {n s : ByteArray} (h : namedD n = true) (h2 : fget n l = none) (h3 : ¬ 400 ≤ l.length) (h4 : 1048576 < s.size) : writeO namedD n s l = (l, 1) := by
  unfold writeO; rw [if_neg (by rw [h]; decide), h2]; simp only; rw [if_neg h3, if_pos h4]
theorem writeO_4 {l : List Fil} {n s : ByteArray} (h : namedD n = true) (h2 : fget n l = none) (h3 : ¬ 400 ≤ l.length) (h4 : ¬ 1048576 < s.size) : writeO namedD n s l = (fput ⟨n, nilB, s⟩ l, 0) := by
  unfold writeO; rw [if_neg (by rw [h]; decide), h2]; simp only; rw [if_neg h3, if_neg h4]
theorem writeO_5 {l : List Fil} {n s : ByteArray} {f : Fil} (h : namedD n = true) (h2 : fget n l = some f) (h3 : 1048576 < s.size + f.safe.size + f.tail.size) : writeO namedD n s l = (l, 1) := by
  unfold writeO; rw [if_neg (by rw [h]; decide), h2]; simp only; rw [if_pos h3]
theorem writeO_6 {l : List Fil} {n s : ByteArray} {f : Fil} (h : namedD n = true) (h2 : fget n l = some f) (h3 : ¬ 1048576 < s.size + f.safe.size + f.tail.size) : writeO namedD n s l = (fput ⟨n, f.safe, f.tail ++ s⟩ l, 0) := by
  unfold writeO; rw [if_neg (by rw [h]; decide), h2]; simp only; rw [if_neg h3]
set_option maxRecDepth 100000 in
set_option maxHeartbeats 3200000 in
theorem writeC (w0 : World) (l : List Fil) (name s : ByteArray) (nb sb : Nat) (hgood : GoodL namedD l) (hnb : w0.cell? ⟨nb, 0, none⟩ = some (.string name)) (hsb : w0.cell? ⟨sb, 0, none⟩ = some (.string s)) :
    CloOk 35 #[.pointer (some ⟨nb, 0, none⟩), .pointer (some ⟨sb, 0, none⟩)] w0 l (writeO namedD name s l) := by
  intro W B gb v fu hB hwB hBW hge hG hO
  show Calls Try.prog _ #[.pointer (some ⟨gb, 0, none⟩), .pointer (some ⟨nb, 0, none⟩), .pointer (some ⟨sb, 0, none⟩)] W _
  have hnlt := World.block_lt_of_cell? w0 _ hnb
  have n0 : W.cell? ⟨nb, 0, none⟩ = some (.string name) := (hB.cell (p := ⟨nb, 0, none⟩) hnlt).trans hnb
  have HNB := Lib.hid (fun w' (h : Below W.heap.size W w') => (h.cell (p := ⟨nb, 0, none⟩) (Nat.lt_of_lt_of_le hnlt hB.size)).trans n0)
  have HNBB := Lib.hid (fun w' (h : Below B W w') => (h.cell (p := ⟨nb, 0, none⟩) (Nat.lt_of_lt_of_le hnlt hwB)).trans n0)
  have hslt := World.block_lt_of_cell? w0 _ hsb
  have HSB := Lib.hid (fun w' (h : Below B W w') => (h.cell (p := ⟨sb, 0, none⟩) (Nat.lt_of_lt_of_le hslt hwB)).trans ((hB.cell (p := ⟨sb, 0, none⟩) hslt).trans hsb))
  have HGB := Lib.hid (fun w' (h : Below W.heap.size W w') => blk_below hG h)
  have HOW := Lib.hid (fun w' (h : Below W.heap.size W w') => owns_below hO h)
  obtain ⟨ao, cp, rfl⟩ := rd_form (rdRow_of_owns hO)
  have HGD := Lib.hid hgood
  have hl := hgood.len
  have HFI := Lib.hid (fun w' (h : Below W.heap.size W w') => find_any l name _ fu w' hgood.srt (rdF_owns (HOW.out _ h)) (by omega))
  have HNM := Lib.hid (namedD_any name W)
  obtain ⟨c0, c1, z0, z1⟩ := cell_of_two hG
  have HBW := Lib.hid hBW
  have HGE := Lib.hid hge
  obtain ⟨r, hr⟩ : ∃ r, r = writeO namedD name s l := ⟨_, rfl⟩
  rw [← hr]
  have HR := Lib.hid hr
  obtain ⟨k, hk⟩ : ∃ k, k = fidx name l := ⟨_, rfl⟩
  have HK := Lib.hid hk
  rw [← hk] at HFI
  obtain ⟨nm, hnm⟩ : ∃ nm, nm = namedD name := ⟨_, rfl⟩
  rw [← hnm] at HNM
  have HNMD := Lib.hid hnm.symm
  clear hnlt hgood hr hk hwB hB hnb hBW hge hslt hsb hnm
  go_enter Try.func35, Try.ntmps35
  go_wp2_with fail
  (with_reducible refine HNM.out.mono ?_)
  rintro e wn ⟨rfl, hbn⟩
  have HBN := Lib.hid hbn
  clear hbn c0 c1 z0 z1 n0 HNM
  obtain ⟨c0, c1, z0, z1⟩ := cell_of_two (HGB.out _ HBN.out)
  have n0 := HNB.out _ HBN.out
  cases nm with
  | false =>
    have hr1 := HR.out.trans (writeO_1 HNMD.out)
    subst hr1
    go_wp2_with fail
    go_ret
    first | exact ⟨rfl, HBN.out.mono HBW.out, fun h => by cases h⟩ | exact ⟨rfl, HBN.out.mono HBW.out⟩
  | true =>
    cases hg : fget name l with
    | none =>
      rw [hg] at HFI
      obtain ⟨hkl, hput⟩ := at_none Fil.name HGD.out.srt hg
      rw [← show k = idxL Fil.name name l from HK.out] at hkl hput
      have HNONE := Lib.hid hg
      have HPUT := Lib.hid hput
      clear hg hput
      by_cases hfull : 400 ≤ l.length
      · have hr1 := HR.out.trans (writeO_2 HNMD.out HNONE.out hfull)
        subst hr1
        have hfi : decide ((400 : Int) ≤ (l.length : Int)) = true := decide_eq_true (by omega)
        go_wp2_with fail
        refine Lone.wp_region_order [(0, false), (1, false), (2, false), (3, false), (4, true), (5, false), (6, false), (7, false), (8, false), (9, false)] (fun w' => w'.cell? ⟨gb, 0, none⟩ = some (.slice ao l.length cp) ∧ w'.cell? ⟨gb, 1, none⟩ = some (.int .i64 fu) ∧ w'.cell? ⟨nb, 0, none⟩ = some (.string name)) (by kernel_rfl) (by kernel_rfl) rfl (by kernel_rfl) (by intro _ _ d _ _ h; cases d <;> exact h) (⟨c0, c1, n0⟩) ?_; simp only [List.map_cons, List.map_nil, List.getElem?_toArray, List.getElem?_cons_zero, List.getElem?_cons_succ, Option.getD_some]
        repeat (first | (refine Lone.ro_q (by rfl) (v := ?_) ?_ ?_; rotate_left; (focus (intro w' hSw; (try dsimp only at hSw); go_simp; try with_reducible rfl)); simp only [Act.put, List.setIfInBounds_toArray, List.set_cons_zero, List.set_cons_succ]) | (refine Lone.ro_skip (by rfl) ?_; simp only [Act.put, List.setIfInBounds_toArray, List.set_cons_zero, List.set_cons_succ]))
        (refine Lone.ro_loud (by rfl) (fun K hK => ?_); go_simp)
        (with_reducible refine (HFI.out _ (HBN.out).drew).mono ?_)
        rintro e w1 ⟨rfl, hb1⟩
        have HB1 := Lib.hid (show Below W.heap.size W w1 from (HBN.out).drew.trans (hb1.mono (HBN.out).size))
        clear hb1 c0 c1 z0 z1 n0
        obtain ⟨c0, c1, z0, z1⟩ := cell_of_two (HGB.out _ HB1.out)
        have n0 := HNB.out _ HB1.out
        (refine hK.out _ _ (fun w' => w'.cell? ⟨gb, 0, none⟩ = some (.slice ao l.length cp) ∧ w'.cell? ⟨gb, 1, none⟩ = some (.int .i64 fu) ∧ w'.cell? ⟨nb, 0, none⟩ = some (.string name)) (.inl fun _ h => h) (⟨c0, c1, n0⟩) ?_; clear hK K; try simp only [Act.put, List.setIfInBounds_toArray, List.set_cons_zero, List.set_cons_succ])
        repeat (first | (refine Lone.ro_q (by rfl) (v := ?_) ?_ ?_; rotate_left; (focus (intro w' hSw; (try dsimp only at hSw); go_simp; try with_reducible rfl)); simp only [Act.put, List.setIfInBounds_toArray, List.set_cons_zero, List.set_cons_succ]) | (refine Lone.ro_skip (by rfl) ?_; simp only [Act.put, List.setIfInBounds_toArray, List.set_cons_zero, List.set_cons_succ]))
        (refine Lone.ro_nil ?_; go_wp2_with fail)
        go_ret
        first | exact ⟨rfl, HB1.out.mono HBW.out, fun h => by cases h⟩ | exact ⟨rfl, HB1.out.mono HBW.out⟩
      · have hfi : decide ((400 : Int) ≤ (l.length : Int)) = false := decide_eq_false (by omega)
        have HFULL := Lib.hid hfull
        clear hfull
        go_wp2_with fail
        refine Lone.wp_region_order [(0, false), (1, false), (2, false), (3, false), (4, true), (5, false), (6, false), (7, false), (8, false), (9, false)] (fun w' => w'.cell? ⟨gb, 0, none⟩ = some (.slice ao l.length cp) ∧ w'.cell? ⟨gb, 1, none⟩ = some (.int .i64 fu) ∧ w'.cell? ⟨nb, 0, none⟩ = some (.string name)) (by kernel_rfl) (by kernel_rfl) rfl (by kernel_rfl) (by intro _ _ d _ _ h; cases d <;> exact h) (⟨c0, c1, n0⟩) ?_; simp only [List.map_cons, List.map_nil, List.getElem?_toArray, List.getElem?_cons_zero, List.getElem?_cons_succ, Option.getD_some]
        repeat (first | (refine Lone.ro_q (by rfl) (v := ?_) ?_ ?_; rotate_left; (focus (intro w' hSw; (try dsimp only at hSw); go_simp; try with_reducible rfl)); simp only [Act.put, List.setIfInBounds_toArray, List.set_cons_zero, List.set_cons_succ]) | (refine Lone.ro_skip (by rfl) ?_; simp only [Act.put, List.setIfInBounds_toArray, List.set_cons_zero, List.set_cons_succ]))
        (refine Lone.ro_loud (by rfl) (fun K hK => ?_); go_simp)
        (with_reducible refine (HFI.out _ (HBN.out).drew).mono ?_)
        rintro e w1 ⟨rfl, hb1⟩
        have HB1 := Lib.hid (show Below W.heap.size W w1 from (HBN.out).drew.trans (hb1.mono (HBN.out).size))
        clear hb1 c0 c1 z0 z1 n0
        obtain ⟨c0, c1, z0, z1⟩ := cell_of_two (HGB.out _ HB1.out)
        have n0 := HNB.out _ HB1.out
        (refine hK.out _ _ (fun w' => w'.cell? ⟨gb, 0, none⟩ = some (.slice ao l.length cp) ∧ w'.cell? ⟨gb, 1, none⟩ = some (.int .i64 fu) ∧ w'.cell? ⟨nb, 0, none⟩ = some (.string name)) (.inl fun _ h => h) (⟨c0, c1, n0⟩) ?_; clear hK K; try simp only [Act.put, List.setIfInBounds_toArray, List.set_cons_zero, List.set_cons_succ])
        repeat (first | (refine Lone.ro_q (by rfl) (v := ?_) ?_ ?_; rotate_left; (focus (intro w' hSw; (try dsimp only at hSw); go_simp; try with_reducible rfl)); simp only [Act.put, List.setIfInBounds_toArray, List.set_cons_zero, List.set_cons_succ]) | (refine Lone.ro_skip (by rfl) ?_; simp only [Act.put, List.setIfInBounds_toArray, List.set_cons_zero, List.set_cons_succ]))
        (refine Lone.ro_nil ?_; go_wp2_with fail)
        have hbA : Below W.heap.size W (w1.alloc (.cells #[.string name, .string ⟨#[]⟩, .string ⟨#[]⟩] 60)).drew := (HB1.out.alloc HB1.out.size (.cells #[.string name, .string ⟨#[]⟩, .string ⟨#[]⟩] 60)).drew
        have HBA := Lib.hid hbA
        have HVA := Lib.hid (show (w1.alloc (.cells #[.string name, .string ⟨#[]⟩, .string ⟨#[]⟩] 60)).drew.heap[w1.heap.size]? = some (.cells #[.string name, .string ⟨#[]⟩, .string ⟨#[]⟩] 60 (0, 0)) from heap_alloc_new w1 _)
        have HV1 := Lib.hid (show ∀ u ∈ (#[.string name, .string ⟨#[]⟩, .string ⟨#[]⟩] : Array Value).toList, u.oneCell' = true from three_one _ _ _)
        have hne1 : (Value.slice ao l.length cp).ownBlock ≠ some w1.heap.size := fun e => absurd ((HOW.out _ HB1.out).lt _ e).2 (Nat.lt_irrefl _)
        have HINS := Lib.hid (fun (w' : World) (hb : Below W.heap.size W w') (hvb : w'.heap[w1.heap.size]? = some (.cells #[.string name, .string ⟨#[]⟩, .string ⟨#[]⟩] 60 (0, 0))) => fil_ins l.length k _ (fvs l) w' B w1.heap.size #[.string name, .string ⟨#[]⟩, .string ⟨#[]⟩] hkl (HOW.out _ hb) (fvs_one l) (Nat.le_trans HBW.out hb.size) hvb rfl HV1.out hne1 (by omega))
        have HB2F := Lib.hid (fun (w' w2 : World) (hb : Below W.heap.size W w') (hu : Upd (fun b => (Value.slice ao l.length cp).ownBlock = some b) w' w2) => (hb.mono HBW.out).trans (hu.below (Nat.le_trans HBW.out hb.size) (fun i hi => ((HOW.out _ hb).lt i hi).1)))
        have HG2F := Lib.hid (fun (w' w2 : World) (hb : Below W.heap.size W w') (hu : Upd (fun b => (Value.slice ao l.length cp).ownBlock = some b) w' w2) => blk_upd (HGB.out _ hb) hu (fun e => owns_ne (e := 60) (t := 30) (HOW.out _ hb) (HGB.out _ hb) (by decide) e))
        have c0a := (cell_of_two (HGB.out _ hbA)).1
        have n0a := HNB.out _ hbA
        clear hbA hne1
        go_region_with (go_at_call 37; refine (HINS.out _ ?_ ?_).mono ?_; exact HBA.out; exact HVA.out; rintro e w2 ⟨v', rfl, hO2, hU2⟩; obtain ⟨g, cp2, hv, hcp⟩ := own_form hO2 (Nat.succ_pos _); subst hv; have HB2 := Lib.hid (HB2F.out _ _ HBA.out hU2); have HG2 := Lib.hid (HG2F.out _ _ HBA.out hU2); clear c0 c1 z0 z1 n0 hU2 c0a n0a; obtain ⟨c0, c1, z0, z1⟩ := cell_of_two HG2.out; have HO2 := Lib.hid hO2; clear hO2)
        all_goals
          obtain ⟨x, hx⟩ : ∃ x : Fil, x = ⟨name, nilB, nilB⟩ := ⟨_, rfl⟩
          obtain ⟨L, hL⟩ : ∃ L, L = l.take k ++ x :: l.drop k := ⟨_, rfl⟩
          have HLL := Lib.hid (show L.length = l.length + 1 by rw [hL]; simp; omega)
          have HXK := Lib.hid (show L[k]? = some x by rw [hL]; exact mid_get hkl)
          have HXS := Lib.hid (show x.safe.size + x.tail.size ≤ 1048576 by rw [hx]; exact Nat.zero_le _)
          have HLO := Lib.hid (fun (h : 1048576 < s.size + x.safe.size + x.tail.size) => HR.out.trans (writeO_3 HNMD.out HNONE.out HFULL.out (by rw [hx] at h; exact h)))
          have HOK := Lib.hid (fun (h : ¬ 1048576 < s.size + x.safe.size + x.tail.size) => HR.out.trans (writeO_4 HNMD.out HNONE.out HFULL.out (by rw [hx] at h; exact h)))
          have HFV := Lib.hid (show fvs (L.take k ++ ⟨x.name, x.safe, x.tail ++ s⟩ :: L.drop (k + 1)) = fvs (fput ⟨name, nilB, s⟩ l) by rw [hL, take_mid hkl, drop_mid hkl, hx, show nilB ++ s = s from nil_app s]; exact congrArg fvs (HPUT.out ⟨name, nilB, s⟩ rfl))
          have HFL := Lib.hid (show (fput ⟨name, nilB, s⟩ l).length = L.length by rw [HLL.out]; exact len_put_none Fil.name (f := ⟨name, nilB, s⟩) HGD.out.srt HNONE.out)
          have HBC := Lib.hid (HB2.out.setCell (p := ⟨gb, 0, none⟩) HGE.out (.slice (some ⟨g, 0, none⟩) (l.length + 1) cp2))
          have HGC := Lib.hid (two_setCell0 (u := .slice (some ⟨g, 0, none⟩) (l.length + 1) cp2) HG2.out)
          have HOC := Lib.hid (show (w2.setCell ⟨gb, 0, none⟩ (.slice (some ⟨g, 0, none⟩) (l.length + 1) cp2)).ownsRow B 60 3 (.slice (some ⟨g, 0, none⟩) L.length cp2) L.length (fvs L) by
            have h := owns_setCell HO2.out (owns_ne (e := 60) (t := 30) HO2.out HG2.out (by decide)) (a := ⟨gb, 0, none⟩) (.slice (some ⟨g, 0, none⟩) (l.length + 1) cp2)
            rw [HLL.out, hL, fvs_append, show fvs (x :: l.drop k) = [Value.string name, .string ⟨#[]⟩, .string ⟨#[]⟩] ++ fvs (l.drop k) by rw [hx]; rfl, ← fvs_take, ← fvs_drop, ← List.append_assoc]
            exact h)
          have HSC := Lib.hid (HSB.out _ HBC.out)
          have hki : (k : Int) < ((l.length + 1 : Nat) : Int) := by omega
          have hki2 : (k : Int) < (l.length : Int) + 1 := by omega
          have hki3 : k < l.length + 1 := by omega
          obtain ⟨w3, hw3⟩ : ∃ w3, w2.setCell ⟨gb, 0, none⟩ (.slice (some ⟨g, 0, none⟩) (l.length + 1) cp2) = w3 := ⟨_, rfl⟩
          rw [hw3] at HBC HGC HOC HSC ⊢
          clear hx hL hw3 c0 c1 z0 z1 hcp HFI
          obtain ⟨c0, c1, z0, z1⟩ := cell_of_two HGC.out
          obtain ⟨s0, s1, s2, sf⟩ := own_cells HOC.out HXK.out
          have sf1 := sf (k * 3 + 1)
          have sf2 := sf (k * 3 + 2)
          have t0 := HSC.out
          have hxs := HXS.out
          have hw1 : IntKind.i64.wrap (1048576 - (x.safe.size : Int)) = 1048576 - (x.safe.size : Int) := by rw [IntKind.wrap_i64]; omega
          have hw2 : IntKind.i64.wrap (1048576 - (x.safe.size : Int) - (x.tail.size : Int)) = 1048576 - (x.safe.size : Int) - (x.tail.size : Int) := by rw [IntKind.wrap_i64]; omega
          clear sf hxs
          by_cases hlong : 1048576 < s.size + x.safe.size + x.tail.size
          · have hd : decide (1048576 - (x.safe.size : Int) - (x.tail.size : Int) < (s.size : Int)) = true := decide_eq_true (by omega)
            have hr1 := HLO.out hlong
            subst hr1
            clear hlong
            go_wp2_with fail
            go_region
            go_wp2_with fail
            go_ret
            first | exact ⟨rfl, HBC.out.drew, fun h => by cases h⟩ | exact ⟨rfl, HBC.out.drew⟩
          · have hd : decide (1048576 - (x.safe.size : Int) - (x.tail.size : Int) < (s.size : Int)) = false := decide_eq_false (by omega)
            have hr1 := HOK.out hlong
            subst hr1
            have hsum : (x.tail.size : Int) + (s.size : Int) ≤ 9223372036854775807 := by have := HXS.out; omega
            clear hlong
            go_wp2_with fail
            go_region
            go_wp2_with fail
            go_region
            go_wp2_with fail
            go_ret
            have HUP := Lib.hid ((Upd.refl (· = g) w3).setCell (a := ⟨g, k * 3 + 2, none⟩) (.inl rfl) (.string (x.tail ++ s)))
            have hgB : B ≤ g := (HOC.out.lt g rfl).1
            have HGN := Lib.hid (show gb ≠ g from fun e => owns_ne (e := 60) (t := 30) HOC.out HGC.out (by decide) (by rw [e]; rfl))
            have h := own_set HOC.out (k * 3 + 2) (.string (x.tail ++ s))
            rw [fvs_put1 HXK.out ⟨x.name, x.safe, x.tail ++ s⟩ rfl rfl, HFV.out] at h
            rw [HLL.out] at h HFL
            have hbf := HBC.out.trans (HUP.out.below (Nat.le_trans HBW.out HBC.out.size) (fun i hi => by rw [hi]; exact hgB))
            have hgf := blk_upd (S := fun i => i = g) HGC.out HUP.out HGN.out
            refine ⟨rfl, hbf.drew.drew, ?_⟩
            try intro _
            refine ⟨_, hgf, ?_⟩
            show World.ownsRow _ B 60 3 _ (fput ⟨name, nilB, s⟩ l).length (fvs (fput ⟨name, nilB, s⟩ l))
            rw [HFL.out]
            exact h
    | some f =>
      rw [hg] at HFI
      obtain ⟨h1, h2, h3, h4⟩ := at_some Fil.name HGD.out.srt hg
      rw [← show k = idxL Fil.name name l from HK.out] at h1 h2 h3 h4
      obtain ⟨g, cp', hv, hcp⟩ := own_form (HOW.out _ (Below.refl _ W)) (by omega)
      simp only [Value.slice.injEq, true_and] at hv
      obtain ⟨rfl, rfl⟩ := hv
      have hki : (k : Int) < (l.length : Int) := by omega
      have HXK := Lib.hid h2
      have HXS := Lib.hid (HGD.out.size f (List.mem_of_getElem? h2))
      have HLO := Lib.hid (fun (h : 1048576 < s.size + f.safe.size + f.tail.size) => HR.out.trans (writeO_5 HNMD.out hg h))
      have HOK := Lib.hid (fun (h : ¬ 1048576 < s.size + f.safe.size + f.tail.size) => HR.out.trans (writeO_6 HNMD.out hg h))
      have HFV := Lib.hid (show fvs (l.take k ++ ⟨f.name, f.safe, f.tail ++ s⟩ :: l.drop (k + 1)) = fvs (fput ⟨name, f.safe, f.tail ++ s⟩ l) by rw [(getL_some Fil.name hg).2, h3 ⟨name, f.safe, f.tail ++ s⟩ rfl])
      have HFL := Lib.hid (show (fput ⟨name, f.safe, f.tail ++ s⟩ l).length = l.length from len_put_some Fil.name (f := ⟨name, f.safe, f.tail ++ s⟩) HGD.out.srt hg)
      clear h2 h3 h4 hg
      go_wp2_with fail
      refine Lone.wp_region_order [(0, false), (1, false), (2, false), (3, false), (4, true), (5, false), (6, false), (7, false), (8, false), (9, false)] (fun w' => w'.cell? ⟨gb, 0, none⟩ = some (.slice (some ⟨g, 0, none⟩) l.length cp) ∧ w'.cell? ⟨gb, 1, none⟩ = some (.int .i64 fu) ∧ w'.cell? ⟨nb, 0, none⟩ = some (.string name)) (by kernel_rfl) (by kernel_rfl) rfl (by kernel_rfl) (by intro _ _ d _ _ h; cases d <;> exact h) (⟨c0, c1, n0⟩) ?_; simp only [List.map_cons, List.map_nil, List.getElem?_toArray, List.getElem?_cons_zero, List.getElem?_cons_succ, Option.getD_some]
      repeat (first | (refine Lone.ro_q (by rfl) (v := ?_) ?_ ?_; rotate_left; (focus (intro w' hSw; (try dsimp only at hSw); go_simp; try with_reducible rfl)); simp only [Act.put, List.setIfInBounds_toArray, List.set_cons_zero, List.set_cons_succ]) | (refine Lone.ro_skip (by rfl) ?_; simp only [Act.put, List.setIfInBounds_toArray, List.set_cons_zero, List.set_cons_succ]))
      (refine Lone.ro_loud (by rfl) (fun K hK => ?_); go_simp)
      (with_reducible refine (HFI.out _ (HBN.out).drew).mono ?_)
      rintro e w1 ⟨rfl, hb1⟩
      have HB1 := Lib.hid (show Below W.heap.size W w1 from (HBN.out).drew.trans (hb1.mono (HBN.out).size))
      clear hb1 c0 c1 z0 z1 n0
      obtain ⟨c0, c1, z0, z1⟩ := cell_of_two (HGB.out _ HB1.out)
      have n0 := HNB.out _ HB1.out
      (refine hK.out _ _ (fun w' => w'.cell? ⟨gb, 0, none⟩ = some (.slice (some ⟨g, 0, none⟩) l.length cp) ∧ w'.cell? ⟨gb, 1, none⟩ = some (.int .i64 fu) ∧ w'.cell? ⟨nb, 0, none⟩ = some (.string name)) (.inl fun _ h => h) (⟨c0, c1, n0⟩) ?_; clear hK K; try simp only [Act.put, List.setIfInBounds_toArray, List.set_cons_zero, List.set_cons_succ])
      repeat (first | (refine Lone.ro_q (by rfl) (v := ?_) ?_ ?_; rotate_left; (focus (intro w' hSw; (try dsimp only at hSw); go_simp; try with_reducible rfl)); simp only [Act.put, List.setIfInBounds_toArray, List.set_cons_zero, List.set_cons_succ]) | (refine Lone.ro_skip (by rfl) ?_; simp only [Act.put, List.setIfInBounds_toArray, List.set_cons_zero, List.set_cons_succ]))
      (refine Lone.ro_nil ?_; go_wp2_with fail)
      have HBC := Lib.hid (HB1.out.mono HBW.out)
      have HOC := Lib.hid (HOW.out _ HB1.out)
      have HGC := Lib.hid (HGB.out _ HB1.out)
      have HSC := Lib.hid (HSB.out _ HBC.out)
      clear c0 c1 z0 z1 n0 HFI
      obtain ⟨c0, c1, z0, z1⟩ := cell_of_two HGC.out
      obtain ⟨s0, s1, s2, sf⟩ := own_cells HOC.out HXK.out
      have sf1 := sf (k * 3 + 1)
      have sf2 := sf (k * 3 + 2)
      have t0 := HSC.out
      have hxs := HXS.out
      have hw1 : IntKind.i64.wrap (1048576 - (f.safe.size : Int)) = 1048576 - (f.safe.size : Int) := by rw [IntKind.wrap_i64]; omega
      have hw2 : IntKind.i64.wrap (1048576 - (f.safe.size : Int) - (f.tail.size : Int)) = 1048576 - (f.safe.size : Int) - (f.tail.size : Int) := by rw [IntKind.wrap_i64]; omega
      clear sf hxs
      by_cases hlong : 1048576 < s.size + f.safe.size + f.tail.size
      · have hd : decide (1048576 - (f.safe.size : Int) - (f.tail.size : Int) < (s.size : Int)) = true := decide_eq_true (by omega)
        have hr1 := HLO.out hlong
        subst hr1
        clear hlong
        go_wp2_with fail
        go_region
        go_wp2_with fail
        go_ret
        first | exact ⟨rfl, HBC.out.drew, fun h => by cases h⟩ | exact ⟨rfl, HBC.out.drew⟩
      · have hd : decide (1048576 - (f.safe.size : Int) - (f.tail.size : Int) < (s.size : Int)) = false := decide_eq_false (by omega)
        have hr1 := HOK.out hlong
        subst hr1
        have hsum : (f.tail.size : Int) + (s.size : Int) ≤ 9223372036854775807 := by have := HXS.out; omega
        clear hlong
        go_wp2_with fail
        go_region
        go_wp2_with fail
        go_region
        go_wp2_with fail
        go_ret
        have HUP := Lib.hid ((Upd.refl (· = g) w1).setCell (a := ⟨g, k * 3 + 2, none⟩) (.inl rfl) (.string (f.tail ++ s)))
        have hgB : B ≤ g := (HOC.out.lt g rfl).1
        have HGN := Lib.hid (show gb ≠ g from fun e => owns_ne (e := 60) (t := 30) HOC.out HGC.out (by decide) (by rw [e]; rfl))
        have h := own_set HOC.out (k * 3 + 2) (.string (f.tail ++ s))
        rw [fvs_put1 HXK.out ⟨f.name, f.safe, f.tail ++ s⟩ rfl rfl, HFV.out] at h
        skip
        have hbf := HBC.out.trans (HUP.out.below (Nat.le_trans HBW.out HBC.out.size) (fun i hi => by rw [hi]; exact hgB))
        have hgf := blk_upd (S := fun i => i = g) HGC.out HUP.out HGN.out
        refine ⟨rfl, hbf.drew.drew, ?_⟩
        try intro _
        refine ⟨_, hgf, ?_⟩
        show World.ownsRow _ B 60 3 _ (fput ⟨name, f.safe, f.tail ++ s⟩ l).length (fvs (fput ⟨name, f.safe, f.tail ++ s⟩ l))
        rw [HFL.out]
        exact h
end Go.Proofs.Ytnggcldpojebkaa
