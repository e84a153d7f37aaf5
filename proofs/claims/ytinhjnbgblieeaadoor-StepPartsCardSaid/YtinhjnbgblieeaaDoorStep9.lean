/- The walk of package step's Replay. -/
import Derived.Test.YtinhjnbgblieeaaDoorReplay
import Derived.Test.YtinhjnbgblieeaaDoorStB
import Derived.Test.YtinhjnbgblieeaaDoorRef
namespace Go.Proofs.YtinhjnbgblieeaaDoor
open Go.RowKit
set_option linter.unusedVariables false
set_option linter.unusedSimpArgs false

theorem drop_getD' {α : Type} (l : List α) (k : Nat) (d : α) (h : k < l.length) : l.drop k = l.getD k d :: l.drop (k + 1) := by
  rw [List.drop_eq_getElem_cons h, List.getD, List.getElem?_eq_getElem h]; rfl
def RetP (w : World) (r : (List Rf × Nat) × Int) (e : Ending) (w' : World) : Prop := ∃ v, e = .returned (.tuple #[v, .int .i64 (r.1.2 : Int), .int .i64 r.2]) ∧ rdR w' v r.1.1 ∧ Below w.heap.size w w'
set_option maxRecDepth 100000 in
set_option maxHeartbeats 3200000 in
theorem replay_any (sg wt : List ByteArray) (need : Int) (l : List Stp) (vg vt v : Value) (w : World) (hg : rdS w vg sg) (hwt : rdS w vt wt) (hr : rdT w v l) (hk : ∀ n, n < sg.length → (sg.getD n noB).size ≤ 140737488355328) (ht : Tab w) :
    Calls Tryd.prog 31 #[.agg #[vg, vt, .int .i64 need], v] w (RetP w (replayF sealF sg need l)) := by
  obtain ⟨L, rfl, hR⟩ := hr
  obtain ⟨a1, a2, rfl⟩ := rd_form hR.row
  obtain ⟨F, hF⟩ : ∃ F, F = replayF sealF sg need (L.map Stv.s) := ⟨_, rfl⟩
  rw [← hF]
  have HF := Lib.hid hF
  have HT := Lib.hid ht
  have HKS := Lib.hid hk
  obtain ⟨g1, g2, rfl⟩ := rd_form hg
  obtain ⟨h1, h2, rfl⟩ := rd_form hwt
  obtain ⟨W, hW⟩ : ∃ W, w.alloc (.cells #[.slice g1 sg.length g2, .slice h1 wt.length h2, .int .i64 need] 34) = W := ⟨_, rfl⟩
  have hg0 : W.heap[w.heap.size]? = some (.cells #[.slice g1 sg.length g2, .slice h1 wt.length h2, .int .i64 need] 34 (0, 0)) := by rw [← hW]; exact heap_alloc_new _ _
  have hb1 : Below w.heap.size w W := by rw [← hW]; exact (Below.refl _ _).alloc (Nat.le_refl _) _
  have HW0 := Lib.hid hb1
  have HK := Lib.hid (fun wr (h : Below W.heap.size W wr) => blk_below hg0 h)
  have HGR := Lib.hid (fun wr (h : Below W.heap.size W wr) => (hg.below hb1).below h)
  have HVR := Lib.hid (fun wr (h : Below W.heap.size W wr) => (hwt.below hb1).below h)
  have HR := Lib.hid (fun wr (h : Below W.heap.size W wr) => (hR.below hb1).below h)
  have HB0 := Lib.hid (Below.refl W.heap.size W)
  have HLN := Lib.hid (rdG_len hR.row)
  clear hF hR hg hwt hk ht hg0 hb1
  by_cases hbig : 200 < L.length
  · have b1 : decide ((200 : Int) < (L.length : Int)) = true := decide_eq_true (by omega)
    have b2 : decide (200 < L.length) = true := decide_eq_true hbig
    have hF := HF.out.trans (replayF_1 sealF sg need (by simpa using hbig))
    subst hF
    clear hbig
    go_enter Tryd.func31, Tryd.ntmps31
    go_wp2_with fail
    go_ret3
    exact ⟨_, rfl, rdR_nil _, HW0.out.trans (HB0.out.mono HW0.out.size)⟩
  · have b1 : decide ((200 : Int) < (L.length : Int)) = false := decide_eq_false (by omega)
    have b2 : decide (200 < L.length) = false := decide_eq_false hbig
    have HFF := Lib.hid ((HF.out.trans (replayF_2 sealF sg need (by simpa using hbig))).trans (show _ = replayG sealF sg need ((L.map Stv.s).drop 0) 0 [] by rw [List.drop_zero]))
    have HLL := Lib.hid (show L.length ≤ 200 by omega)
    clear hbig HF
    go_enter Tryd.func31, Tryd.ntmps31
    go_wp2_with fail
    clear hW
    go_loopw [7, 18] (fun o i wr => ∃ (k : Nat) (acc : List Rf), i = .int .i64 (k : Int) ∧ k ≤ L.length ∧ Hid (rdR wr o acc) ∧ Hid (F = replayG sealF sg need ((L.map Stv.s).drop k) k acc) ∧ Hid (Below W.heap.size W wr)) (fun _ i _ => L.length - (intOf i).toNat)
    case atStart => exact ⟨0, [], rfl, Nat.zero_le _, Lib.hid (rdR_nil _), HFF, HB0⟩
    case round =>
      clear HFF HB0
      obtain ⟨k, acc, rfl, hk, HAC, HFk, HB1⟩ := hrel
      by_cases hkl : k < L.length
      · have HKL := Lib.hid hkl
        have kb : decide ((k : Int) < (L.length : Int)) = true := decide_eq_true (by omega)
        have ki : (k : Int) < (L.length : Int) := by omega
        have kz : (0 : Int) ≤ (k : Int) := by omega
        have hw1 : wrap64 ((k : Int) + 1) = (k : Int) + 1 := IntWalk.wrap64_in _ (by have := HKL.out; have := HLL.out; omega)
        obtain ⟨t, ht⟩ : ∃ t, t = L.getD k zeroStv := ⟨_, rfl⟩
        have hat := (HR.out _ HB1.out).at hkl
        rw [← ht] at hat
        obtain ⟨b, off, ha1, d0, d1, d2, d3, d4, hrw, hrs⟩ := hat
        subst ha1
        obtain ⟨b1, b2, hvw⟩ := rd_form hrw
        obtain ⟨b3, b4, hvs⟩ := rd_form hrs
        rw [hvw] at hrw d3
        rw [hvs] at hrs d4
        have hdr := drop_getD' (L.map Stv.s) k zeroStp (by simpa using hkl)
        rw [← stv_getD, ← ht] at hdr
        have HDR := Lib.hid hdr
        have HRW1 := Lib.hid hrw
        have HRS1 := Lib.hid hrs
        clear hvw hvs ht hdr hkl hrw hrs
        go_wp2_with (refine wpList_store_blk (by rfl) 25 (.tmp 9) (.tmp 22) rfl wr.heap.size #[.string t.s.ref, .string t.s.old, .string t.s.new, .slice b1 t.s.who.length b2, .slice b3 t.s.seals.length b4] rfl rfl (old := _) (heap_alloc_new _ _) (by kernel_rfl) rfl (by simp [Value.oneCell']) ?_; intro wz gz uz; have hbz := below_upd ((Below.refl wr.heap.size wr).alloc (Nat.le_refl _) _) uz (Nat.le_refl _) (by simp); have HBZ := Lib.hid hbz; have HQ2 := Lib.hid gz; have HB2 := Lib.hid (HB1.out.trans (hbz.mono HB1.out.size)); obtain ⟨c0, c1, c2, c3, c4, _, _⟩ := stp_cells gz; obtain ⟨k0, k1, k2⟩ := key_cells (HK.out _ HB2.out); clear gz uz hbz)
        have hck := checkStp_any sg wt need (k : Int) t.s _ _ _ _ wz (HGR.out _ HB2.out) (HVR.out _ HB2.out) (HRW1.out.below HBZ.out) (HRS1.out.below HBZ.out) HKS.out (HT.out.below (HW0.out.trans (HB2.out.mono HW0.out.size)))
        have HAC2 := Lib.hid (HAC.out.below HBZ.out)
        obtain ⟨ce, hce⟩ : ∃ ce, ce = checkF sealF sg need (k : Int) t.s := ⟨_, rfl⟩
        rw [← hce] at hck
        have HCE := Lib.hid hce
        clear hce
        (with_reducible refine hck.mono ?_)
        rintro e w3 ⟨rfl, hb⟩
        have HB3 := Lib.hid (HB2.out.trans (hb.mono HB2.out.size))
        have HQ3 := Lib.hid (blk_below HQ2.out hb)
        have HAC3 := Lib.hid (HAC2.out.below hb)
        clear hb hck d0 d1 d2 d3 d4
        clear c0 c1 c2 c3 c4 k0 k1 k2
        obtain ⟨c0, c1, c2, c3, c4, _, _⟩ := stp_cells HQ3.out
        obtain ⟨k0, k1, k2⟩ := key_cells (HK.out _ HB3.out)
        by_cases hz : ce = 0
        · subst hz
          have hst := setR_any acc t.s.ref t.s.old t.s.new _ w3 HAC3.out
          obtain ⟨⟨sr, se⟩, hsr⟩ : ∃ q, q = setR namedR acc t.s.ref t.s.old t.s.new := ⟨_, rfl⟩
          rw [← hsr] at hst
          have HSR := Lib.hid hsr
          clear hsr
          go_wp2_with fail
          (with_reducible refine hst.mono ?_)
          rintro e w4 ⟨v', rfl, hrr, hb⟩
          have HB4 := Lib.hid (HB3.out.trans (hb.mono HB3.out.size))
          have HAC4 := Lib.hid hrr
          clear hb hst hrr
          clear c0 c1 c2 c3 c4 k0 k1 k2
          by_cases hz2 : se = 0
          · subst hz2
            have HF2 := Lib.hid ((HFk.out.trans (congrArg (fun x => replayG sealF sg need x k acc) HDR.out)).trans ((replayG_3 sealF sg need HCE.out.symm (by rw [← HSR.out])).trans (by rw [← HSR.out])))
            go_wp2_with fail
            go_roundw
            case rel => exact ⟨k + 1, sr, by first | rfl | (rw [hw1]; rfl), by have := HKL.out; omega, HAC4, HF2, HB4⟩
            case measure => exact meas_step (n := L.length) _ (by first | rfl | exact hw1) HKL.out
          · have n1 : (se == 0) = false := beq_eq_false_iff_ne.2 hz2
            have n2 : (se != 0) = true := by rw [bne, n1]; rfl
            have hF := (HFk.out.trans (congrArg (fun x => replayG sealF sg need x k acc) HDR.out)).trans (replayG_2 sealF sg need HCE.out.symm (by rw [← HSR.out]; exact hz2))
            rw [← HSR.out] at hF
            subst hF
            clear hz2
            go_wp2_with fail
            go_ret3
            exact ⟨_, rfl, rdR_nil _, HW0.out.trans (HB4.out.mono HW0.out.size)⟩
        · have n1 : (ce == 0) = false := beq_eq_false_iff_ne.2 hz
          have n2 : (ce != 0) = true := by rw [bne, n1]; rfl
          have hF := (HFk.out.trans (congrArg (fun x => replayG sealF sg need x k acc) HDR.out)).trans (replayG_1 sealF sg need (by rw [← HCE.out]; exact hz))
          rw [← HCE.out] at hF
          subst hF
          clear hz
          go_wp2_with fail
          go_ret3
          exact ⟨_, rfl, rdR_nil _, HW0.out.trans (HB3.out.mono HW0.out.size)⟩
      · have kb : decide ((k : Int) < (L.length : Int)) = false := decide_eq_false (by omega)
        have kb2 : decide (k < L.length) = false := decide_eq_false hkl
        have hF : F = ((acc, 0), 0) := HFk.out.trans (by rw [List.drop_of_length_le (by rw [List.length_map]; omega)]; rfl)
        subst hF
        clear hkl
        go_wp2_with fail
        go_ret3
        exact ⟨_, rfl, HAC.out, HW0.out.trans (HB1.out.mono HW0.out.size)⟩
end Go.Proofs.YtinhjnbgblieeaaDoor
