/- The walks of package head's Empty, Leaves and Of. -/
import Derived.Test.YtinhjnbgblieeaaDoorHeadLaw2
import Derived.Test.YtinhjnbgblieeaaDoorHead1
import Derived.Test.YtinhjnbgblieeaaDoorStps
import Derived.Test.YtinhjnbgblieeaaDoorStep7
import Derived.Test.YtinhjnbgblieeaaDoorMerkle
namespace Go.Proofs.YtinhjnbgblieeaaDoor
open Go.RowKit
set_option linter.unusedVariables false
set_option linter.unusedSimpArgs false

theorem leavesG_cons_bad {s : Stp} {r : List Stp} {acc : List ByteArray} (h : goodS s ≠ 0) : leavesG (s :: r) acc = ([], goodS s) := by unfold leavesG; rw [if_pos h]
theorem leavesG_cons {s : Stp} {r : List Stp} {acc : List ByteArray} (h : goodS s = 0) : leavesG (s :: r) acc = leavesG r (acc ++ [encB s]) := by rw [leavesG, if_neg (by simpa using h)]
theorem drop_getD {α : Type} (l : List α) (k : Nat) (d : α) (h : k < l.length) : l.drop k = l.getD k d :: l.drop (k + 1) := by
  rw [List.drop_eq_getElem_cons h, List.getD, List.getElem?_eq_getElem h]; rfl
def RetL (w : World) (r : List ByteArray × Int) (e : Ending) (w' : World) : Prop := ∃ v, e = .returned (.tuple #[v, .int .i64 r.2]) ∧ w'.ownsRow w.heap.size 9 1 v r.1.length (svs r.1) ∧ Below w.heap.size w w'
set_option maxRecDepth 100000 in
set_option maxHeartbeats 3200000 in
theorem leaves_any (l : List Stp) (v : Value) (w : World) (hr : rdT w v l) (hl : l.length ≤ 4398046511104) :
    Calls Tryd.prog 25 #[v] w (RetL w (leavesF l)) := by
  obtain ⟨L, rfl, hR⟩ := hr
  obtain ⟨a1, a2, rfl⟩ := rd_form hR.row
  have HR := Lib.hid (fun wr (h : Below w.heap.size w wr) => hR.below h)
  obtain ⟨F, hF⟩ : ∃ F, F = leavesF (L.map Stv.s) := ⟨_, rfl⟩
  rw [← hF]
  have HF := Lib.hid (hF.trans (show _ = leavesG ((L.map Stv.s).drop 0) [] by rw [List.drop_zero]; rfl))
  rw [List.length_map] at hl
  have HLL := Lib.hid hl
  have HB0 := Lib.hid (Below.refl w.heap.size w)
  clear hF hR hl
  go_enter Tryd.func25, Tryd.ntmps25
  go_wp2_with fail
  go_loopw [4, 11] (fun o i wr => ∃ (k : Nat) (acc : List ByteArray), i = .int .i64 (k : Int) ∧ k ≤ L.length ∧ acc.length = k ∧ Hid (wr.ownsRow w.heap.size 9 1 o acc.length (svs acc)) ∧ Hid (F = leavesG ((L.map Stv.s).drop k) acc) ∧ Hid (Below w.heap.size w wr)) (fun _ i _ => L.length - (intOf i).toNat)
  case atStart => exact ⟨0, [], rfl, Nat.zero_le _, rfl, Lib.hid (World.ownsRow_nil _ _ _ _), HF, HB0⟩
  case round =>
    clear HF HB0
    obtain ⟨k, acc, rfl, hk, hak, HOW, HFk, HB1⟩ := hrel
    have HAK := Lib.hid hak
    clear hak
    by_cases hkl : k < L.length
    · have HKL := Lib.hid hkl
      have kb : decide ((k : Int) < (L.length : Int)) = true := decide_eq_true (by omega)
      have ki : (k : Int) < (L.length : Int) := by omega
      have k0 : (0 : Int) ≤ (k : Int) := by omega
      have hw1 : wrap64 ((k : Int) + 1) = (k : Int) + 1 := IntWalk.wrap64_in _ (by have := HKL.out; have := HLL.out; omega)
      obtain ⟨t, ht⟩ : ∃ t, t = L.getD k zeroStv := ⟨_, rfl⟩
      have hat := (HR.out _ HB1.out).at hkl
      rw [← ht] at hat
      obtain ⟨b, off, ha1, d0, d1, d2, d3, d4, hrw, hrs⟩ := hat
      subst ha1
      obtain ⟨b1, b2, hvw⟩ := rd_form hrw
      obtain ⟨b3, b4, hvs⟩ := rd_form hrs
      rw [hvw] at hrw d3
      rw [hvs] at hrs d4
      have HRW := Lib.hid (fun wr (h : Below w.heap.size w wr) => True.intro)
      have hdr := drop_getD (L.map Stv.s) k zeroStp (by simpa using hkl)
      rw [← stv_getD, ← ht] at hdr
      have HDR := Lib.hid hdr
      clear hvw hvs ht hdr hkl
      have HRW1 := Lib.hid hrw
      have HRS1 := Lib.hid hrs
      clear hrw hrs HRW
      go_wp2_with (refine wpList_store_blk (by rfl) 25 (.tmp 6) (.tmp 14) rfl wr.heap.size #[.string t.s.ref, .string t.s.old, .string t.s.new, .slice b1 t.s.who.length b2, .slice b3 t.s.seals.length b4] rfl rfl (old := _) (heap_alloc_new _ _) (by kernel_rfl) rfl (by simp [Value.oneCell']) ?_; intro wz gz uz; have hbz := below_upd ((Below.refl wr.heap.size wr).alloc (Nat.le_refl _) _) uz (Nat.le_refl _) (by simp); have HBZ := Lib.hid hbz; have HGZ := Lib.hid gz; obtain ⟨c0, c1, c2, c3, c4, _, _⟩ := stp_cells gz; clear gz uz hbz)
      have hen := encodeStp_any t.s _ _ wz (HRW1.out.below HBZ.out) (HRS1.out.below HBZ.out)
      have HB2 := Lib.hid (HB1.out.trans (HBZ.out.mono HB1.out.size))
      have HOW2 := Lib.hid (owns_below HOW.out HBZ.out)
      by_cases hg : goodS t.s = 0
      · rw [encF_2 hg] at hen
        have HF2 := Lib.hid ((HFk.out.trans (congrArg (fun x => leavesG x acc) HDR.out)).trans (leavesG_cons hg))
        clear hg
        (with_reducible refine hen.mono ?_)
        rintro e w3 ⟨rfl, hb⟩
        have HB3 := Lib.hid (HB2.out.trans (hb.mono HB2.out.size))
        have HOW3 := Lib.hid (owns_below HOW2.out hb)
        clear hb hen c0 c1 c2 c3 c4 d0 d1 d2 d3 d4
        go_wp2_with (first | (at_builtin; refine wpList_append1 rfl _ _ 23 rfl info_string Tryd.underlying23 rfl (by decide) (by decide) HOW3.out HB3.out (Nat.le_refl _) HB3.out.size rfl (by simp [Value.oneCell']) (by have := HAK.out; have := HKL.out; have := HLL.out; show (acc.length + 1) * 16 ≤ _; omega) rfl rfl ?_; intro v' w4 hown hb4 _; have HOW4 := Lib.hid (show w4.ownsRow w.heap.size 9 1 v' (acc ++ [encB t.s]).length (svs (acc ++ [encB t.s])) by rw [svs_append, List.length_append]; exact hown); have HB4 := Lib.hid hb4; clear hown hb4))
        go_roundw
        case rel => exact ⟨k + 1, acc ++ [encB t.s], by first | rfl | (rw [hw1]; rfl), by have := HKL.out; omega, by have := HAK.out; simp; omega, HOW4, HF2, HB4⟩
        case measure => exact meas_step (n := L.length) _ (by first | rfl | exact hw1) HKL.out
      · rw [encF_1 hg] at hen
        have hF := (HFk.out.trans (congrArg (fun x => leavesG x acc) HDR.out)).trans (leavesG_cons_bad hg)
        obtain ⟨ge, hge⟩ : ∃ ge, ge = goodS t.s := ⟨_, rfl⟩
        rw [← hge] at hen hF hg
        subst hF
        have n1 : (ge == 0) = false := beq_eq_false_iff_ne.2 hg
        have n2 : (ge != 0) = true := by rw [bne, n1]; rfl
        clear hg hge
        (with_reducible refine hen.mono ?_)
        rintro e w3 ⟨rfl, hb⟩
        have HB3 := Lib.hid (HB2.out.trans (hb.mono HB2.out.size))
        clear hb hen c0 c1 c2 c3 c4 d0 d1 d2 d3 d4
        go_wp2_with fail
        go_ret2
        exact ⟨_, rfl, World.ownsRow_nil _ _ _ _, HB3.out⟩
    · have kb : decide ((k : Int) < (L.length : Int)) = false := decide_eq_false (by omega)
      have kb2 : decide (k < L.length) = false := decide_eq_false hkl
      have hF : F = (acc, 0) := HFk.out.trans (by rw [List.drop_of_length_le (by rw [List.length_map]; omega)]; rfl)
      subst hF
      clear hkl
      go_wp2_with fail
      go_ret2
      exact ⟨_, rfl, HOW.out, HB1.out⟩
theorem ofF_1 {l : List Stp} (h : 200 < l.length) : ofF l = ((0, noB), 6) := by unfold ofF; rw [if_pos h]
theorem ofF_2 {l : List Stp} (h : ¬ 200 < l.length) (h2 : (leavesF l).2 ≠ 0) : ofF l = ((0, noB), (leavesF l).2) := by unfold ofF; rw [if_neg h, if_pos h2]
theorem ofF_3 {l : List Stp} (h : ¬ 200 < l.length) (h2 : (leavesF l).2 = 0) : ofF l = (((l.length : Int), rootF (leavesF l).1), 0) := by unfold ofF; rw [if_neg h, if_neg (by simpa using h2)]
theorem leaves_smalls {l : List Stp} (h : (leavesF l).2 = 0) : smalls (leavesF l).1 := by
  obtain ⟨h1, h2⟩ := leavesF_ok h
  rw [h2]
  intro x hx
  obtain ⟨s, hs, rfl⟩ := List.mem_map.1 hx
  show (encS s).toArray.size ≤ _
  rw [List.size_toArray]
  have := encS_length (h1 s hs)
  omega
theorem leaves_len {l : List Stp} (h : (leavesF l).2 = 0) : (leavesF l).1.length = l.length := by
  obtain ⟨h1, h2⟩ := leavesF_ok h
  rw [h2]; simp
set_option maxRecDepth 100000 in
set_option maxHeartbeats 3200000 in
theorem of_any (l : List Stp) (v : Value) (w : World) (hr : rdT w v l) (ht : Tab w) :
    Calls Tryd.prog 23 #[v] w fun e w' => e = .returned (.tuple #[.agg #[.int .i64 (ofF l).1.1, .string (ofF l).1.2], .int .i64 (ofF l).2]) ∧ Below w.heap.size w w' := by
  obtain ⟨a1, a2, rfl⟩ := rdT_form hr
  obtain ⟨F, hF⟩ : ∃ F, F = ofF l := ⟨_, rfl⟩
  rw [← hF]
  have HF := Lib.hid hF
  clear hF
  obtain ⟨W, hW⟩ : ∃ W, w.alloc (.cells #[.int .i64 0, .string ⟨#[]⟩] 41) = W := ⟨_, rfl⟩
  have gR0 : W.heap[w.heap.size]? = some (.cells #[.int .i64 0, .string ⟨#[]⟩] 41 (0, 0)) := by rw [← hW]; exact heap_alloc_new _ _
  have hb1 : Below w.heap.size w W := by rw [← hW]; exact (Below.refl _ _).alloc (Nat.le_refl _) _
  have HW0 := Lib.hid hb1
  have HGR := Lib.hid (fun wr (h : Below W.heap.size W wr) => blk_below gR0 h)
  have HB0 := Lib.hid (Below.refl W.heap.size W)
  have HR := Lib.hid (hr.below hb1)
  have HT := Lib.hid (ht.below hb1)
  clear hb1 gR0 hr ht
  by_cases hbig : 200 < l.length
  · have b1 : decide ((200 : Int) < (l.length : Int)) = true := decide_eq_true (by omega)
    have b2 : decide (200 < l.length) = true := decide_eq_true hbig
    have hF := HF.out.trans (ofF_1 hbig)
    subst hF
    clear hbig
    go_enter Tryd.func23, Tryd.ntmps23
    have gR := HGR.out _ HB0.out
    go_wp2_with (refine wpList_store_blk (by rfl) 41 (.tmp 2) (.tmp 9) rfl w.heap.size #[.int .i64 0, .string ⟨#[]⟩] rfl rfl (old := _) gR (by kernel_rfl) rfl (by simp [Value.oneCell']) ?_; intro wz gz uz)
    obtain ⟨r0, r1, _, _⟩ := head_cells gz
    refine bodyPost_ret (v := .tuple #[.agg #[.int .i64 0, .string ⟨#[]⟩], .int .i64 (6)]) ?_ rfl ⟨rfl, below_upd (HW0.out.trans (HB0.out.mono HW0.out.size)) uz (Nat.le_refl _) (by have := HW0.out.size; have := HB0.out.size; omega)⟩
    simp [results, Tryd.f23, go_sem, r0, r1]
  · have b1 : decide ((200 : Int) < (l.length : Int)) = false := decide_eq_false (by omega)
    have b2 : decide (200 < l.length) = false := decide_eq_false hbig
    have HNB := Lib.hid hbig
    have hlv := leaves_any l _ W HR.out (by omega)
    obtain ⟨⟨lv, le⟩, hq⟩ : ∃ q, q = leavesF l := ⟨_, rfl⟩
    rw [← hq] at hlv
    have HQ := Lib.hid hq
    clear hbig hq
    go_enter Tryd.func23, Tryd.ntmps23
    go_wp2_with fail
    (with_reducible refine hlv.mono ?_)
    rintro e w1 ⟨vl, rfl, hown, hb⟩
    have HB1 := Lib.hid (HB0.out.trans hb)
    have HOW := Lib.hid hown
    clear hb hown hlv
    by_cases hz : le = 0
    · subst hz
      have h2 : (leavesF l).2 = 0 := by rw [← HQ.out]
      have hF := HF.out.trans (ofF_3 HNB.out h2)
      have hsm := leaves_smalls h2
      have hle := leaves_len h2
      rw [← HQ.out] at hF hsm hle
      simp only at hF hsm hle
      subst hF
      have hro := root_any lv.length lv vl w1 (Nat.le_refl _) (by rw [hle]; have := HNB.out; omega) (rdS_owns HOW.out) hsm (HT.out.below HB1.out)
      clear h2 hsm hle
      go_wp2_with fail
      (with_reducible refine hro.mono ?_)
      rintro e w2 ⟨rfl, hb⟩
      have HB2 := Lib.hid (HB1.out.trans (hb.mono HB1.out.size))
      clear hb hro
      have gR := HGR.out _ HB2.out
      go_wp2_with (refine wpList_store_blk (by rfl) 41 (.tmp 2) (.tmp 23) rfl w.heap.size #[.int .i64 (l.length : Int), .string (rootF lv)] rfl rfl (old := _) gR (by kernel_rfl) rfl (by simp [Value.oneCell']) ?_; intro wz gz uz)
      obtain ⟨r0, r1, _, _⟩ := head_cells gz
      refine bodyPost_ret (v := .tuple #[.agg #[.int .i64 (l.length : Int), .string (rootF lv)], .int .i64 (0)]) ?_ rfl ⟨rfl, below_upd (HW0.out.trans (HB2.out.mono HW0.out.size)) uz (Nat.le_refl _) (by have := HW0.out.size; have := HB2.out.size; omega)⟩
      simp [results, Tryd.f23, go_sem, r0, r1]
    · have n1 : (le == 0) = false := beq_eq_false_iff_ne.2 hz
      have n2 : (le != 0) = true := by rw [bne, n1]; rfl
      have hF := HF.out.trans (ofF_2 HNB.out (by rw [← HQ.out]; exact hz))
      rw [← HQ.out] at hF
      simp only at hF
      subst hF
      clear hz
      have gR := HGR.out _ HB1.out
      go_wp2_with (refine wpList_store_blk (by rfl) 41 (.tmp 2) (.tmp 17) rfl w.heap.size #[.int .i64 0, .string ⟨#[]⟩] rfl rfl (old := _) gR (by kernel_rfl) rfl (by simp [Value.oneCell']) ?_; intro wz gz uz)
      obtain ⟨r0, r1, _, _⟩ := head_cells gz
      refine bodyPost_ret (v := .tuple #[.agg #[.int .i64 0, .string ⟨#[]⟩], .int .i64 (le)]) ?_ rfl ⟨rfl, below_upd (HW0.out.trans (HB1.out.mono HW0.out.size)) uz (Nat.le_refl _) (by have := HW0.out.size; have := HB1.out.size; omega)⟩
      simp [results, Tryd.f23, go_sem, r0, r1]
set_option maxRecDepth 100000 in
set_option maxHeartbeats 3200000 in
theorem empty_any (w : World) (ht : Tab w) :
    Calls Tryd.prog 38 #[] w fun e w' => e = .returned (.agg #[.int .i64 0, .string (rootF [])]) ∧ Below w.heap.size w w' := by
  obtain ⟨W, hW⟩ : ∃ W, w.alloc (.cells #[.int .i64 0, .string ⟨#[]⟩] 41) = W := ⟨_, rfl⟩
  have gR0 : W.heap[w.heap.size]? = some (.cells #[.int .i64 0, .string ⟨#[]⟩] 41 (0, 0)) := by rw [← hW]; exact heap_alloc_new _ _
  have hb1 : Below w.heap.size w W := by rw [← hW]; exact (Below.refl _ _).alloc (Nat.le_refl _) _
  have HW0 := Lib.hid hb1
  have HGR := Lib.hid (fun wr (h : Below W.heap.size W wr) => blk_below gR0 h)
  have hro := root_any 0 [] (.slice none 0 0) W (Nat.le_refl _) (by omega) (rdS_nil0 _) (fun _ h => by cases h) (ht.below hb1)
  clear hb1 gR0 ht
  go_enter Tryd.func38, Tryd.ntmps38
  go_wp2_with fail
  (with_reducible refine hro.mono ?_)
  rintro e w1 ⟨rfl, hb⟩
  have HB1 := Lib.hid hb
  clear hb hro
  have gR := HGR.out _ HB1.out
  go_wp2_with (refine wpList_store_blk (by rfl) 41 (.tmp 0) (.tmp 2) rfl w.heap.size #[.int .i64 0, .string (rootF [])] rfl rfl (old := _) gR (by kernel_rfl) rfl (by simp [Value.oneCell']) ?_; intro wz gz uz)
  obtain ⟨r0, r1, _, _⟩ := head_cells gz
  refine bodyPost_ret (v := .agg #[.int .i64 0, .string (rootF [])]) ?_ rfl ⟨rfl, below_upd (HW0.out.trans (HB1.out.mono HW0.out.size)) uz (Nat.le_refl _) (by have := HW0.out.size; have := HB1.out.size; omega)⟩
  simp [results, Tryd.f38, go_sem, r0, r1]
end Go.Proofs.YtinhjnbgblieeaaDoor
