/- The walk of the law WireRows. -/
import Derived.Test.YtafgbmeibnhapaaWireRowsLaw
import Derived.Test.YtafgbmeibnhapaaWireOnly
import Derived.Test.YtafgbmeibnhapaaRegion
import Derived.Deep.RegionWith
import Derived.Deep.RegionHeld3
import Derived.Deep.DeepCutAuto
namespace Go.Proofs.Ytafgbmeibnhapaa
open Go.RowKit
set_option linter.unusedVariables false
set_option linter.unusedSimpArgs false


theorem get_int {w wr : World} {ao : Option Addr} {n cap : Nat} {ns : List Int} (hr : rdRow w 1 (.slice ao n cap) n (ns.map (.int .i64))) (hb : Below w.heap.size w wr) {k : Nat} (hk : k < n) :
    ∃ b off x, ao = some ⟨b, off, none⟩ ∧ b < w.heap.size ∧ ns[k]? = some x ∧ wr.cell? ⟨b, off + k, none⟩ = some (.int .i64 x) := by
  have hl : ns.length = n := by simpa using hr.1
  obtain ⟨b, off, rfl, hbw, hc⟩ := rd_at hr (by simp; omega)
  refine ⟨b, off, ns[k]'(by omega), rfl, hbw, List.getElem?_eq_getElem (by omega), ?_⟩
  rw [hb.cell (p := ⟨b, off + k, none⟩) hbw]
  exact hc k _ (by rw [List.getElem?_map, List.getElem?_eq_getElem (by omega)]; rfl)
theorem get_str {w wr : World} {ao : Option Addr} {n cap : Nat} {ns : List ByteArray} (hr : rdRow w 1 (.slice ao n cap) n (ns.map .string)) (hb : Below w.heap.size w wr) {k : Nat} (hk : k < n) :
    ∃ b off x, ao = some ⟨b, off, none⟩ ∧ b < w.heap.size ∧ ns[k]? = some x ∧ wr.cell? ⟨b, off + k, none⟩ = some (.string x) := by
  have hl : ns.length = n := by simpa using hr.1
  obtain ⟨b, off, rfl, hbw, hc⟩ := rd_at hr (by simp; omega)
  refine ⟨b, off, ns[k]'(by omega), rfl, hbw, List.getElem?_eq_getElem (by omega), ?_⟩
  rw [hb.cell (p := ⟨b, off + k, none⟩) hbw]
  exact hc k _ (by rw [List.getElem?_map, List.getElem?_eq_getElem (by omega)]; rfl)

theorem rd_below {B g : Nat} {wq w5 : World} (hu : Upd (fun k => k = g) wq w5) (hg : B ≤ g) (hB : B ≤ wq.heap.size) : Below B wq w5 :=
  hu.below hB (fun k hk => by rw [hk]; exact hg)
theorem cell_stay {B b o : Nat} {wq w5 : World} {u : Value} (h : Below B wq w5) (hb : b < B) (hc : wq.cell? ⟨b, o, none⟩ = some u) : w5.cell? ⟨b, o, none⟩ = some u := by
  rw [h.cell (p := ⟨b, o, none⟩) hb]; exact hc

def RoundTo (ns : List Int) (ts : List ByteArray) (k j g : Nat) (w : World) (more : ByteArray) (wx : World) : Prop :=
  ∃ s : ByteArray, RdSt wx g (s, 0) ∧ s.data.toList = ((rowsW ns ts k).1 ++ more.data.toList).drop (rowsW ns ts (j + 1)).1.length ∧ Below w.heap.size w wx

theorem halfW_at {ns : List Int} {ts : List ByteArray} {k : Nat} {x : Int} (h : ns[k]? = some x) : wNum (rowsW ns ts k) x = halfW ns ts k := by unfold halfW; rw [h]
theorem halfW_no {ns : List Int} {ts : List ByteArray} {k : Nat} (h : ns.length ≤ k) : rowsW ns ts k = halfW ns ts k := by unfold halfW; rw [List.getElem?_eq_none h]
theorem rowsW_at {ns : List Int} {ts : List ByteArray} {k : Nat} {x : ByteArray} (h : ts[k]? = some x) : wTxt (halfW ns ts k) x = rowsW ns ts (k + 1) := by rw [rowsW_succ, h]
theorem rowsW_no {ns : List Int} {ts : List ByteArray} {k : Nat} (h : ts.length ≤ k) : halfW ns ts k = rowsW ns ts (k + 1) := by rw [rowsW_succ, List.getElem?_eq_none h]

set_option maxRecDepth 100000 in
set_option maxHeartbeats 1600000 in
theorem wireRows_core (v0 : Option Addr) (ln cn : Nat) (ns : List Int) (v1 : Option Addr) (lt ct : Nat) (ts : List ByteArray) (more : ByteArray) (w : World)
    (hrn : rdRow w 1 (.slice v0 ln cn) ln (ns.map (.int .i64))) (hrt : rdRow w 1 (.slice v1 lt ct) lt (ts.map .string)) (hln : ln ≤ 1048576) (hlt : lt ≤ 1048576) (hm : more.size ≤ 140737488351232) :
    Calls Try.prog 6 #[.slice v0 ln cn, .slice v1 lt ct, .string more] w fun e w' => e = .returned (.bool true) ∧ Below w.heap.size w w' := by
  have hn1 : ns.length = ln := by have := hrn.1; simpa using this
  have ht1 : ts.length = lt := by have := hrt.1; simpa using this
  have HN := Lib.hid hn1; have HT := Lib.hid ht1; clear hn1 ht1
  go_enter Try.func6, Try.ntmps6
  go_wp2_with fail
  go_loopw [8] (fun i wr => ∃ (k : Nat) (v : Value), i = .int .i64 k ∧ (k ≤ ln ∨ k ≤ lt) ∧ WrSt wr w.heap.size w.heap.size v (rowsW ns ts k).1 (rowsW ns ts k).2 ∧ Below w.heap.size w wr) (fun i _ => (ln + lt) - (intOf i).toNat)
  case atStart => exact ⟨0, .slice none 0 0, rfl, .inl (Nat.zero_le _), ⟨heap_alloc_new _ _, World.ownsRow_nil _ _ _ _, (fun h => by cases h), by simp⟩, (Below.refl _ _).alloc (Nat.le_refl _) _⟩
  case round =>
    obtain ⟨k, v, rfl, hk, hst, hb⟩ := hrel
    have hlen := rowsW_len ns ts k
    have hk2 : k ≤ 1048576 := by omega
    have hhalf := halfW_len ns ts k
    by_cases hA : k < ln
    · obtain ⟨b, off, x, rfl, hbw, hx, hcx⟩ := get_int hrn hb hA
      have HX := Lib.hid hx; clear hx
      by_cases hB : k < lt
      · obtain ⟨b1, off1, y, rfl, hbw1, hy, hcy⟩ := get_str hrt hb hB
        have HY := Lib.hid hy; clear hy
        go_wp2_with fail
        refine (wNumber_any hst _ (by omega)).mono ?_
        intro e w1 hto
        have hb1 := hst.below' (Nat.le_refl _) hto
        obtain ⟨rfl, v', hst1, hu1, _⟩ := hto
        have hcy1 : w1.cell? ⟨b1, off1 + k, none⟩ = some (.string y) := by rw [hb1.cell (p := ⟨b1, off1 + k, none⟩) hbw1]; exact hcy
        clear hcy hcx
        rw [halfW_at HX.out] at hst1
        go_wp2_with fail
        refine (wText_any hst1 _ (by omega)).mono ?_
        intro e w2 hto
        have hb2 := hst1.below' (Nat.le_refl _) hto
        obtain ⟨rfl, v2, hst2, hu2, _⟩ := hto
        rw [rowsW_at HY.out] at hst2
        go_wp2_with fail
        go_roundw
        case rel => exact ⟨k + 1, v2, by go_num, by omega, hst2, (hb.trans hb1).trans hb2⟩
        case measure => simp [intOf]; omega
      · have hno : ts.length ≤ k := by rw [HT.out]; omega
        have HNO := Lib.hid hno; clear hno
        go_wp2_with fail
        refine (wNumber_any hst _ (by omega)).mono ?_
        intro e w1 hto
        have hb1 := hst.below' (Nat.le_refl _) hto
        obtain ⟨rfl, v', hst1, hu1, _⟩ := hto
        clear hcx
        rw [halfW_at HX.out, rowsW_no HNO.out] at hst1
        go_wp2_with fail
        go_roundw
        case rel => exact ⟨k + 1, v', by go_num, by omega, hst1, hb.trans hb1⟩
        case measure => simp [intOf]; omega
    · have hno : ns.length ≤ k := by rw [HN.out]; omega
      have HNO := Lib.hid hno; clear hno
      by_cases hB : k < lt
      · obtain ⟨b1, off1, y, rfl, hbw1, hy, hcy⟩ := get_str hrt hb hB
        have HY := Lib.hid hy; clear hy
        rw [halfW_no HNO.out] at hst
        go_wp2_with fail
        refine (wText_any hst _ (by omega)).mono ?_
        intro e w2 hto
        have hb2 := hst.below' (Nat.le_refl _) hto
        obtain ⟨rfl, v2, hst2, hu2, _⟩ := hto
        rw [rowsW_at HY.out] at hst2
        go_wp2_with fail
        go_roundw
        case rel => exact ⟨k + 1, v2, by go_num, by omega, hst2, hb.trans hb2⟩
        case measure => simp [intOf]; omega
      · have hN2 : ts.length ≤ k := by rw [HT.out]; omega
        have hNN := Lib.hid hN2; clear hN2
        generalize hst0 : rowsW ns ts k = st at *
        obtain ⟨l, er⟩ := st
        simp only at hst hlen hhalf
        by_cases he : er = 0
        · subst he
          have HS := Lib.hid hst0; clear hst0 hhalf
          go_wp2_with fail
          refine (wDone_any (st := (l, 0)) hst).mono ?_
          rintro e w1 ⟨rfl, nd, rfl⟩
          have hsz : (⟨l.toArray⟩ : ByteArray).size = l.length := rfl
          rw [doneV, if_pos rfl]
          go_wp2_with fail
          refine (read_any _ _).mono ?_
          rintro e w2 ⟨rfl, hrd, hb2, hsz2⟩
          have hb3 := hb.trans (show Below w.heap.size wr w2 from ⟨hb2.os, hb2.tape, hb2.output, hb2.size, fun i hi => hb2.block i (by have := hb.size; exact Nat.lt_of_lt_of_le hi this)⟩)
          go_wp2_with fail
          have hbw0 := hb.size
          obtain ⟨wo, rfl⟩ : ∃ wo : World, wo = wr := ⟨_, rfl⟩
          go_loopw [12] (fun i wr => ∃ (j : Nat) (s : ByteArray), i = .int .i64 j ∧ j ≤ k ∧ RdSt wr wo.heap.size (s, 0) ∧ s.data.toList = ((rowsW ns ts k).1 ++ more.data.toList).drop (rowsW ns ts j).1.length ∧ Below w.heap.size w wr) (fun i _ => k - (intOf i).toNat)
          case atStart => exact ⟨0, _, rfl, Nat.zero_le _, hrd, by rw [toList_append, HS.out]; simp [rowsW], hb3⟩
          case round =>
            clear hrd hst
            obtain ⟨j, s, rfl, hj, hrd, hs, hbq⟩ := hrel
            have hssz : s.size ≤ l.length + more.size := by rw [← toList_length, hs, HS.out]; simp
            have hR : Hid ((rowsW ns ts k).2 = 0) := Lib.hid (by rw [HS.out])
            have HQ : Hid (w.heap.size ≤ wr.heap.size) := Lib.hid hbq.size
            have HSS := Lib.hid hs; clear hs
            by_cases hA : j < ln
            · obtain ⟨b, off, x, rfl, hbw, hx, hcx⟩ := get_int hrn hbq hA
              obtain ⟨m, s1, e1, e2, e3⟩ := back_num hR.out (by omega) hx HSS.out
              have hs1z : s1.size ≤ l.length + more.size := by rw [← toList_length, e3, HS.out]; simp
              have HX := Lib.hid hx; clear hx
              have E1 := Lib.hid e1; have HM := Lib.hid e2; clear e1 e2
              by_cases hB : j < lt
              · obtain ⟨b1, off1, y, rfl, hbw1, hy, hcy⟩ := get_str hrt hbq hB
                obtain ⟨s2, e4, e5⟩ := back_txt hR.out (by omega) hy e3
                have HY := Lib.hid hy; have E2 := Lib.hid e4; have E3 := Lib.hid e3; have E4 := Lib.hid e5; clear hy e3 e4 e5
                go_upto_region 18 with fail
                go_cut [104] (fun c wx => c = .bool false ∧ RoundTo ns ts k j wo.heap.size w more wx)
                case first =>
                  have hq1 : decide ((j : Int) < (ln : Int)) = true := by simp; omega
                  have hq2 : decide ((j : Int) < (lt : Int)) = true := by simp; omega
                  refine wp_region_order [(0, false), (1, false), (2, false), (3, false), (4, false), (5, false), (7, false), (8, false), (9, false), (10, false), (6, true), (11, false), (12, false), (13, false), (14, false), (15, false), (16, false), (17, false), (18, false), (19, false), (21, false), (22, false), (23, false), (24, false), (20, true), (25, false), (26, false), (27, false)] (fun w' => w'.cell? ⟨b, off + j, none⟩ = some (.int .i64 x) ∧ w'.cell? ⟨b1, off1 + j, none⟩ = some (.string y)) (by kernel_rfl) (by kernel_rfl) rfl (by kernel_rfl) (by intro _ _ d _ _ h; cases d <;> exact h) (⟨hcx, hcy⟩) ?_; simp only [List.map_cons, List.map_nil, List.getElem?_toArray, List.getElem?_cons_zero, List.getElem?_cons_succ, Option.getD_some]
                  repeat (first | (refine ro_q (by rfl) (v := ?_) ?_ ?_; rotate_left; (focus (intro w' hSw; (try dsimp only at hSw); go_simp; try with_reducible rfl)); simp only [Act.put, List.setIfInBounds_toArray, List.set_cons_zero, List.set_cons_succ]) | (refine ro_skip (by rfl) ?_; simp only [Act.put, List.setIfInBounds_toArray, List.set_cons_zero, List.set_cons_succ]))
                  (refine ro_loud (by rfl) (fun K hK => ?_); go_simp)
                  refine (rNumber_any (st := (s, 0)) (g := wo.heap.size) (by exact ⟨hrd.blk⟩) (by simp only [maxLen]; omega)).mono ?_
                  rintro e w5 ⟨rfl, hrd5, hu5⟩
                  rw [E1.out] at hrd5 ⊢
                  simp only at hrd5
                  rw [HM.out]
                  have hb5 := rd_below hu5 hbw0 HQ.out
                  have hcx5 := cell_stay hb5 hbw hcx
                  have hcy5 := cell_stay hb5 hbw1 hcy
                  have HQ5 : Hid (w.heap.size ≤ w5.heap.size) := Lib.hid (Nat.le_trans HQ.out hb5.size)
                  (refine hK.out _ _ (fun w' => w'.cell? ⟨b, off + j, none⟩ = some (.int .i64 x) ∧ w'.cell? ⟨b1, off1 + j, none⟩ = some (.string y)) (fun _ h => h) (⟨hcx5, hcy5⟩) ?_; clear hK K; try simp only [Act.put, List.setIfInBounds_toArray, List.set_cons_zero, List.set_cons_succ])
                  repeat (first | (refine ro_q (by rfl) (v := ?_) ?_ ?_; rotate_left; (focus (intro w' hSw; (try dsimp only at hSw); go_simp; try with_reducible rfl)); simp only [Act.put, List.setIfInBounds_toArray, List.set_cons_zero, List.set_cons_succ]) | (refine ro_skip (by rfl) ?_; simp only [Act.put, List.setIfInBounds_toArray, List.set_cons_zero, List.set_cons_succ]))
                  (refine ro_loud (by rfl) (fun K hK => ?_); go_simp)
                  refine (rText_any (st := (s1, 0)) (g := wo.heap.size) (by exact ⟨hrd5.blk⟩) (by simp only; omega)).mono ?_
                  rintro e w6 ⟨rfl, hrd6, hu6⟩
                  rw [E2.out] at hrd6 ⊢
                  simp only at hrd6 ⊢
                  have hb6 := rd_below hu6 hbw0 HQ5.out
                  have hcy6 := cell_stay hb6 hbw1 hcy5
                  have hcx6 := cell_stay hb6 hbw hcx5
                  (refine hK.out _ _ (fun w' => w'.cell? ⟨b, off + j, none⟩ = some (.int .i64 x) ∧ w'.cell? ⟨b1, off1 + j, none⟩ = some (.string y)) (fun _ h => h) (⟨hcx6, hcy6⟩) ?_; clear hK K; try simp only [Act.put, List.setIfInBounds_toArray, List.set_cons_zero, List.set_cons_succ])
                  repeat (first | (refine ro_q (by rfl) (v := ?_) ?_ ?_; rotate_left; (focus (intro w' hSw; (try dsimp only at hSw); go_simp; try with_reducible rfl)); simp only [Act.put, List.setIfInBounds_toArray, List.set_cons_zero, List.set_cons_succ]) | (refine ro_skip (by rfl) ?_; simp only [Act.put, List.setIfInBounds_toArray, List.set_cons_zero, List.set_cons_succ]))
                  (refine ro_nil ?_; go_wp2_with fail)
                  go_meet
                  exact ⟨rfl, s2, hrd6, E4.out, hbq.drew.trans (hb5.trans hb6)⟩
                case rest =>
                  obtain ⟨rfl, s2, hrd2, hs2, hb2'⟩ := hcut
                  clear hrd hbq HQ
                  go_wp2_with fail
                  go_roundw
                  case rel => exact ⟨j + 1, s2, by go_num, by omega, hrd2, hs2, hb2'⟩
                  case measure => simp [intOf]; omega
              · have hno : ts.length ≤ j := by rw [HT.out]; omega
                have HNO' := Lib.hid hno; clear hno
                have E3 := Lib.hid e3; clear e3
                go_upto_region 18 with fail
                go_cut [104] (fun c wx => c = .bool false ∧ RoundTo ns ts k j wo.heap.size w more wx)
                case first =>
                  have hq1 : decide ((j : Int) < (ln : Int)) = true := by simp; omega
                  have hq2 : decide ((j : Int) < (lt : Int)) = false := by simp; omega
                  refine wp_region_order [(0, false), (1, false), (2, false), (3, false), (4, false), (5, false), (7, false), (8, false), (9, false), (10, false), (6, true), (11, false), (12, false), (13, false), (14, false), (15, false), (16, false), (17, false), (18, false), (19, false), (21, false), (22, false), (23, false), (24, false), (20, true), (25, false), (26, false), (27, false)] (fun w' => w'.cell? ⟨b, off + j, none⟩ = some (.int .i64 x)) (by kernel_rfl) (by kernel_rfl) rfl (by kernel_rfl) (by intro _ _ d _ _ h; cases d <;> exact h) (hcx) ?_; simp only [List.map_cons, List.map_nil, List.getElem?_toArray, List.getElem?_cons_zero, List.getElem?_cons_succ, Option.getD_some]
                  repeat (first | (refine ro_q (by rfl) (v := ?_) ?_ ?_; rotate_left; (focus (intro w' hSw; (try dsimp only at hSw); go_simp; try with_reducible rfl)); simp only [Act.put, List.setIfInBounds_toArray, List.set_cons_zero, List.set_cons_succ]) | (refine ro_skip (by rfl) ?_; simp only [Act.put, List.setIfInBounds_toArray, List.set_cons_zero, List.set_cons_succ]))
                  (refine ro_loud (by rfl) (fun K hK => ?_); go_simp)
                  refine (rNumber_any (st := (s, 0)) (g := wo.heap.size) (by exact ⟨hrd.blk⟩) (by simp only [maxLen]; omega)).mono ?_
                  rintro e w5 ⟨rfl, hrd5, hu5⟩
                  rw [E1.out] at hrd5 ⊢
                  simp only at hrd5
                  rw [HM.out]
                  have hb5 := rd_below hu5 hbw0 HQ.out
                  have hcx5 := cell_stay hb5 hbw hcx
                  (refine hK.out _ _ (fun w' => w'.cell? ⟨b, off + j, none⟩ = some (.int .i64 x)) (fun _ h => h) (hcx5) ?_; clear hK K; try simp only [Act.put, List.setIfInBounds_toArray, List.set_cons_zero, List.set_cons_succ])
                  repeat (first | (refine ro_q (by rfl) (v := ?_) ?_ ?_; rotate_left; (focus (intro w' hSw; (try dsimp only at hSw); go_simp; try with_reducible rfl)); simp only [Act.put, List.setIfInBounds_toArray, List.set_cons_zero, List.set_cons_succ]) | (refine ro_skip (by rfl) ?_; simp only [Act.put, List.setIfInBounds_toArray, List.set_cons_zero, List.set_cons_succ]))
                  refine ro_skipL (by rfl) hcx5 ?_
                  simp only [Act.put, List.setIfInBounds_toArray, List.set_cons_zero, List.set_cons_succ]
                  repeat (first | (refine ro_q (by rfl) (v := ?_) ?_ ?_; rotate_left; (focus (intro w' hSw; (try dsimp only at hSw); go_simp; try with_reducible rfl)); simp only [Act.put, List.setIfInBounds_toArray, List.set_cons_zero, List.set_cons_succ]) | (refine ro_skip (by rfl) ?_; simp only [Act.put, List.setIfInBounds_toArray, List.set_cons_zero, List.set_cons_succ]))
                  (refine ro_nil ?_; go_wp2_with fail)
                  go_meet
                  exact ⟨rfl, s1, hrd5, by rw [← rowsW_no HNO'.out]; exact E3.out, hbq.drew.trans hb5⟩
                case rest =>
                  obtain ⟨rfl, s2, hrd2, hs2, hb2'⟩ := hcut
                  clear hrd hbq HQ
                  go_wp2_with fail
                  go_roundw
                  case rel => exact ⟨j + 1, s2, by go_num, by omega, hrd2, hs2, hb2'⟩
                  case measure => simp [intOf]; omega
            · have hno : ns.length ≤ j := by rw [HN.out]; omega
              by_cases hB : j < lt
              · obtain ⟨b1, off1, y, rfl, hbw1, hy, hcy⟩ := get_str hrt hbq hB
                have hs := HSS.out
                rw [halfW_no hno] at hs
                obtain ⟨s2, e4, e5⟩ := back_txt hR.out (by omega) hy hs
                have HY := Lib.hid hy; have E2 := Lib.hid e4; have E4 := Lib.hid e5; have HNO' := Lib.hid hno; clear hy hs e4 e5 hno
                go_upto_region 18 with fail
                go_cut [104] (fun c wx => c = .bool false ∧ RoundTo ns ts k j wo.heap.size w more wx)
                case first =>
                  have hq1 : decide ((j : Int) < (ln : Int)) = false := by simp; omega
                  have hq2 : decide ((j : Int) < (lt : Int)) = true := by simp; omega
                  refine wp_region_order [(0, false), (1, false), (2, false), (3, false), (4, false), (5, false), (7, false), (8, false), (9, false), (10, false), (6, true), (11, false), (12, false), (13, false), (14, false), (15, false), (16, false), (17, false), (18, false), (19, false), (21, false), (22, false), (23, false), (24, false), (20, true), (25, false), (26, false), (27, false)] (fun w' => w'.cell? ⟨b1, off1 + j, none⟩ = some (.string y)) (by kernel_rfl) (by kernel_rfl) rfl (by kernel_rfl) (by intro _ _ d _ _ h; cases d <;> exact h) (hcy) ?_; simp only [List.map_cons, List.map_nil, List.getElem?_toArray, List.getElem?_cons_zero, List.getElem?_cons_succ, Option.getD_some]
                  repeat (first | (refine ro_q (by rfl) (v := ?_) ?_ ?_; rotate_left; (focus (intro w' hSw; (try dsimp only at hSw); go_simp; try with_reducible rfl)); simp only [Act.put, List.setIfInBounds_toArray, List.set_cons_zero, List.set_cons_succ]) | (refine ro_skip (by rfl) ?_; simp only [Act.put, List.setIfInBounds_toArray, List.set_cons_zero, List.set_cons_succ]))
                  refine ro_skipL (by rfl) (by exact hcy) ?_
                  simp only [Act.put, List.setIfInBounds_toArray, List.set_cons_zero, List.set_cons_succ]
                  repeat (first | (refine ro_q (by rfl) (v := ?_) ?_ ?_; rotate_left; (focus (intro w' hSw; (try dsimp only at hSw); go_simp; try with_reducible rfl)); simp only [Act.put, List.setIfInBounds_toArray, List.set_cons_zero, List.set_cons_succ]) | (refine ro_skip (by rfl) ?_; simp only [Act.put, List.setIfInBounds_toArray, List.set_cons_zero, List.set_cons_succ]))
                  (refine ro_loud (by rfl) (fun K hK => ?_); go_simp)
                  refine (rText_any (st := (s, 0)) (g := wo.heap.size) (by exact ⟨hrd.blk⟩) (by simp only; omega)).mono ?_
                  rintro e w6 ⟨rfl, hrd6, hu6⟩
                  rw [E2.out] at hrd6 ⊢
                  simp only at hrd6 ⊢
                  have hb6 := rd_below hu6 hbw0 HQ.out
                  have hcy6 := cell_stay hb6 hbw1 hcy
                  (refine hK.out _ _ (fun w' => w'.cell? ⟨b1, off1 + j, none⟩ = some (.string y)) (fun _ h => h) (hcy6) ?_; clear hK K; try simp only [Act.put, List.setIfInBounds_toArray, List.set_cons_zero, List.set_cons_succ])
                  repeat (first | (refine ro_q (by rfl) (v := ?_) ?_ ?_; rotate_left; (focus (intro w' hSw; (try dsimp only at hSw); go_simp; try with_reducible rfl)); simp only [Act.put, List.setIfInBounds_toArray, List.set_cons_zero, List.set_cons_succ]) | (refine ro_skip (by rfl) ?_; simp only [Act.put, List.setIfInBounds_toArray, List.set_cons_zero, List.set_cons_succ]))
                  (refine ro_nil ?_; go_wp2_with fail)
                  go_meet
                  exact ⟨rfl, s2, hrd6, E4.out, hbq.drew.trans hb6⟩
                case rest =>
                  obtain ⟨rfl, s2, hrd2, hs2, hb2'⟩ := hcut
                  clear hrd hbq HQ
                  go_wp2_with fail
                  go_roundw
                  case rel => exact ⟨j + 1, s2, by go_num, by omega, hrd2, hs2, hb2'⟩
                  case measure => simp [intOf]; omega
              · have hjk : j = k := by omega
                have hs2 : s = more := by
                  apply bs_ext; rw [HSS.out, hjk, HS.out, List.drop_left' rfl]
                subst hs2
                have HNO' := Lib.hid hno; have HJ := Lib.hid hjk; clear hno hjk
                have hx0 : s.extract 0 s.size = s := extract_all s
                have hr1 : rByt (s, 0) (s.size : Int) = (s, (s.extract s.size s.size, 0)) := by
                  unfold rByt
                  rw [if_neg (by simp), if_neg (by simp)]
                  simp only [Int.toNat_natCast]; rw [extract_all]
                have HR1 := Lib.hid hr1; clear hr1
                have hz0 : (s.extract s.size s.size).size = 0 := by simp
                go_wp2_with fail
                refine (rBad_any hrd).mono ?_
                rintro e w6 ⟨rfl, rfl⟩
                go_wp2_with fail
                refine (rLeft_any hrd).mono ?_
                rintro e w6 ⟨rfl, rfl⟩
                go_wp2_with fail
                refine (rBytes_any hrd (by simp only; omega) _).mono ?_
                rintro e w6 ⟨rfl, hrd6, hu6⟩
                rw [HR1.out] at hrd6 ⊢
                simp only at hrd6 ⊢
                have hb6 := rd_below hu6 hbw0 HQ.out
                have HZ0 := Lib.hid hz0; clear hz0
                go_wp2_with fail
                refine (rLeft_any hrd6).mono ?_
                rintro e w7 ⟨rfl, rfl⟩
                simp only [HZ0.out]
                go_wp2_with fail
                refine (puts_any _).mono ?_
                rintro e w7 ⟨rfl, hb7⟩
                go_wp2_with fail
                go_ret
                have h67 := hbq.trans hb6
                exact ⟨rfl, h67.trans (hb7.mono h67.size)⟩
        · have HS := Lib.hid hst0; clear hst0 hhalf
          have he2 : (er != 0) = true := by simpa using he
          go_wp2_with fail
          refine (wDone_any (st := (l, er)) hst).mono ?_
          rintro e w1 ⟨rfl, nd, rfl⟩
          rw [doneV, if_neg he]
          clear he
          go_wp2_with fail
          refine (puts_any _).mono ?_
          rintro e w2 ⟨rfl, hb2⟩
          go_wp2_with fail
          go_ret
          exact ⟨rfl, hb.trans (show Below w.heap.size wr w2 from ⟨hb2.os, hb2.tape, hb2.output, hb2.size, fun i hi => hb2.block i (by have := hb.size; exact Nat.lt_of_lt_of_le hi this)⟩)⟩
theorem wireRows_walk {w : World} (v0 : Value) (ln : Nat) (ns : List Int) (hrn : rdRow w 1 v0 ln (ns.map (.int .i64))) (_h1 : ∀ n ∈ ns, (Lit.int .i64 n).wf = true) (_h2 : ln * 8 ≤ 140737488351232) (hn : ns.length ≤ 1048576)
    (v1 : Value) (lt : Nat) (ts : List ByteArray) (hrt : rdRow w 1 v1 lt (ts.map .string)) (_h3 : ∀ s ∈ ts, s.size ≤ 140737488351232) (_h4 : lt * 16 ≤ 140737488351232) (ht : ts.length ≤ 1048576 ∧ ∀ s ∈ ts, s.size ≤ 1048576)
    (more : ByteArray) (hm : more.size ≤ 1048576) :
    Calls Try.prog 6 #[v0, v1, .string more] w fun e w' => e = .returned (.bool true) ∧ Below w.heap.size w w' := by
  have h1 : ns.length = ln := by have := hrn.1; simpa using this
  have h2 : ts.length = lt := by have := hrt.1; simpa using this
  have hrn' := hrn
  have hrt' := hrt
  obtain ⟨_, a0, c0, rfl, _⟩ := hrn
  obtain ⟨_, a1, c1, rfl, _⟩ := hrt
  exact wireRows_core a0 ln c0 ns a1 lt c1 ts more w hrn' hrt' (by omega) (by omega) (by omega)

end Go.Proofs.Ytafgbmeibnhapaa
