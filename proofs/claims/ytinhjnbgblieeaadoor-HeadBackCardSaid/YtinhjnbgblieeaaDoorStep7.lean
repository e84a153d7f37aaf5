/- The walk of package step's Encode. -/
import Derived.Test.YtinhjnbgblieeaaDoorStep2
import Derived.Test.YtinhjnbgblieeaaDoorStepEnc
namespace Go.Proofs.YtinhjnbgblieeaaDoor
open Go.RowKit
set_option linter.unusedVariables false
set_option linter.unusedSimpArgs false

theorem encPP_step {s : Stp} {P : List (Int × ByteArray)} (hs : s = stpOf s P) (hP : GoodP P) {k : Nat} (h : k < P.length) :
    encPP (P.drop k) = enc (s.who.getD k 0).toNat ++ ((s.seals.getD k noB).data.toList ++ encPP (P.drop (k + 1))) ∧ (0 ≤ s.who.getD k 0 ∧ s.who.getD k 0 < 8) ∧ (s.seals.getD k noB).size = 32 := by
  have e1 : s.who.getD k 0 = P[k].1 := by rw [hs]; exact getD_map _ _ _ _ h
  have e2 : s.seals.getD k noB = P[k].2 := by rw [hs]; exact getD_map _ _ _ _ h
  rw [e1, e2]
  refine ⟨?_, hP.rng _ (List.getElem_mem h), hP.siz _ (List.getElem_mem h)⟩
  rw [List.drop_eq_getElem_cons h]
  rw [show encPP (P[k] :: P.drop (k + 1)) = (enc P[k].1.toNat ++ P[k].2.data.toList) ++ encPP (P.drop (k + 1)) from rfl, List.append_assoc]
theorem rdI_cl {w : World} {b off cap n : Nat} {zs : List Int} (hr : rdI w (.slice (some ⟨b, off, none⟩) zs.length cap) zs) (h : n < zs.length) : w.cell? ⟨b, off + n, none⟩ = some (.int .i64 (zs.getD n 0)) := by
  obtain ⟨b', o', h1, _, hc⟩ := rdI_at hr (by omega)
  simp only [Option.some.injEq, Addr.mk.injEq, and_true] at h1
  obtain ⟨rfl, rfl⟩ := h1
  exact hc n h
theorem rdS_cl {w : World} {b off cap n : Nat} {zs : List ByteArray} (hr : rdS w (.slice (some ⟨b, off, none⟩) zs.length cap) zs) (h : n < zs.length) : w.cell? ⟨b, off + n, none⟩ = some (.string (zs.getD n noB)) := by
  obtain ⟨b', o', h1, _, hc⟩ := rdS_at' hr (by omega)
  simp only [Option.some.injEq, Addr.mk.injEq, and_true] at h1
  obtain ⟨rfl, rfl⟩ := h1
  exact hc n h
theorem encS_length {s : Stp} (h : goodS s = 0) : (encS s).length ≤ 600 := by
  obtain ⟨hh, P, hP, hs⟩ := goodS_inv h
  obtain ⟨h1, h2, h3⟩ := head_sizes hh
  have hz : s.who.zip s.seals = P := by rw [hs]; exact zip_stp s P
  have hl : s.who.length = P.length := by rw [hs]; simp [stpOf]
  have e0 := hP.len
  have e1 := enc9 (n := s.who.length) (by omega)
  have e2 := enc9 (n := s.ref.size) (by omega)
  have e3 := enc9 (n := s.old.size) (by omega)
  have e4 := enc9 (n := s.new.size) (by omega)
  have e5 := encPP_length hP
  unfold encS
  rw [hz]
  simp only [encT, List.length_append, toList_length]
  omega
theorem encF_1 {s : Stp} (h : goodS s ≠ 0) : encodeSF s = (noB, goodS s) := by unfold encodeSF; rw [if_pos h]
theorem encF_2 {s : Stp} (h : goodS s = 0) : encodeSF s = (⟨(encS s).toArray⟩, 0) := by unfold encodeSF; rw [if_neg (fun k => k h)]
set_option maxRecDepth 100000 in
set_option maxHeartbeats 3200000 in
theorem encodeStp_any (s : Stp) (vw vs : Value) (w : World) (hw : rdI w vw s.who) (hs : rdS w vs s.seals) :
    Calls Tryd.prog 29 #[.agg #[.string s.ref, .string s.old, .string s.new, vw, vs]] w fun e w' => e = .returned (.tuple #[.string (encodeSF s).1, .int .i64 (encodeSF s).2]) ∧ Below w.heap.size w w' := by
  obtain ⟨F, hF⟩ : ∃ F, F = encodeSF s := ⟨_, rfl⟩
  rw [← hF]
  have HF := Lib.hid hF
  obtain ⟨ae1, ae2, rfl⟩ := rd_form hw
  obtain ⟨ae3, ae4, rfl⟩ := rd_form hs
  obtain ⟨W, hW⟩ : ∃ W, w.alloc (.cells #[.string s.ref, .string s.old, .string s.new, .slice ae1 s.who.length ae2, .slice ae3 s.seals.length ae4] 25) = W := ⟨_, rfl⟩
  have hg0 : W.heap[w.heap.size]? = some (.cells #[.string s.ref, .string s.old, .string s.new, .slice ae1 s.who.length ae2, .slice ae3 s.seals.length ae4] 25 (0, 0)) := by rw [← hW]; exact heap_alloc_new _ _
  have hb1 : Below w.heap.size w W := by rw [← hW]; exact (Below.refl _ _).alloc (Nat.le_refl _) _
  have HG := Lib.hid (fun wr (h : Below W.heap.size W wr) => blk_below hg0 h)
  have HRW := Lib.hid (fun wr (h : Below W.heap.size W wr) => (hw.below hb1).below h)
  have HRS := Lib.hid (fun wr (h : Below W.heap.size W wr) => (hs.below hb1).below h)
  have HW0 := Lib.hid hb1
  have hgd := goodStp_any s _ _ W (hw.below hb1) (hs.below hb1)
  obtain ⟨ge, hge⟩ : ∃ ge, ge = goodS s := ⟨_, rfl⟩
  rw [← hge] at hgd
  have HGE := Lib.hid hge
  obtain ⟨c0, c1, c2, c3, c4, _, _⟩ := stp_cells hg0
  clear hge hF hg0 hb1 hw hs
  go_enter Tryd.func29, Tryd.ntmps29
  go_wp2_with fail
  (with_reducible refine hgd.mono ?_)
  rintro e w1 ⟨rfl, hb⟩
  have HB1 := Lib.hid hb
  clear hb hgd c0 c1 c2 c3 c4 hW
  by_cases hz : ge = 0
  · subst hz
    have hF := HF.out.trans (encF_2 HGE.out.symm)
    obtain ⟨E, hE⟩ : ∃ E, E = encS s := ⟨_, rfl⟩
    rw [← hE] at hF
    have HBIG := Lib.hid (show E.length ≤ 4000 by rw [hE]; have := encS_length HGE.out.symm; omega)
    obtain ⟨hh, P, hP, hsP⟩ := goodS_inv HGE.out.symm
    have HGP := Lib.hid hP
    have HSP := Lib.hid hsP
    have HT60 := Lib.hid (show s.ref.size ≤ 4096 ∧ s.old.size ≤ 4096 ∧ s.new.size ≤ 4096 by have := head_sizes hh; omega)
    have hlw : s.who.length = P.length := by rw [hsP]; simp [stpOf]
    have hls : s.seals.length = P.length := by rw [hsP]; simp [stpOf]
    have HPL := Lib.hid hP.len
    have HLW := Lib.hid (And.intro hlw hls)
    have HWL := Lib.hid (show s.who.length ≤ 8 by rw [hlw]; exact hP.len)
    have hzp : s.who.zip s.seals = P := by rw [hsP]; exact zip_stp s P
    have HE2 := Lib.hid (show E = [] ++ (encT s.ref ++ (encT s.old ++ (encT s.new ++ (enc s.who.length ++ (encPP P ++ []))))) by rw [List.append_nil, hE, encS, hzp]; rfl)
    obtain ⟨v2, hv2⟩ : ∃ v2, v2 = Value.slice none 0 0 := ⟨_, rfl⟩
    obtain ⟨w2, hX⟩ : ∃ X, w1.alloc (.cells #[.slice none 0 0, .int .i64 0] 76) = X := ⟨_, rfl⟩
    have hbx : Below w1.heap.size w1 w2 := by rw [← hX]; exact (Below.refl _ _).alloc (Nat.le_refl _) _
    have HB2 := Lib.hid (HB1.out.trans (hbx.mono HB1.out.size))
    have HBG := Lib.hid HB1.out.size
    have HS2 := Lib.hid (show WrSt w2 W.heap.size w1.heap.size v2 [] 0 from by rw [hv2]; exact ⟨by rw [← hX]; exact heap_alloc_new _ _, World.ownsRow_nil _ _ _ _, by simp [Value.ownBlock], HB2.out.size⟩)
    obtain ⟨c0, c1, c2, c3, c4, _, _⟩ := stp_cells (HG.out _ HB2.out)
    subst hF
    clear hE hbx hh hP hsP hlw hls hzp hv2 HB1
    obtain ⟨Y, hY⟩ : ∃ Y, w2.alloc (.cells #[.string s.ref, .string s.old, .string s.new] 9) = Y := ⟨_, rfl⟩
    have hby : Below w2.heap.size w2 Y := by rw [← hY]; exact (Below.refl _ _).alloc (Nat.le_refl _) _
    have gy : Y.heap[w2.heap.size]? = some (.cells #[.string s.ref, .string s.old, .string s.new] 9 (0, 0)) := by rw [← hY]; exact heap_alloc_new _ _
    obtain ⟨e0, e1, e2⟩ := three_cells gy
    have HSy := Lib.hid (HS2.out.below hby)
    have HBy := Lib.hid (HB2.out.trans (hby.mono HB2.out.size))
    have HTX := Lib.hid (show w2.heap.size < Y.heap.size by rw [← hY]; simp)
    have HNG := Lib.hid (show w2.heap.size ≠ w1.heap.size from fun e => by have := lt_of_block HS2.out.blk; omega)
    have HNOy := Lib.hid (show v2.ownBlock ≠ some w2.heap.size from fun e => by obtain ⟨_, cs, f, hc⟩ := owns_elem HS2.out.own e; have := lt_of_block hc; omega)
    have HGY := Lib.hid gy
    obtain ⟨tx, htx⟩ : ∃ tx, tx = w2.heap.size := ⟨_, rfl⟩
    have HTX2 := Lib.hid htx
    rw [← htx] at HNG HNOy HGY HTX e0 e1 e2
    have hEy := HE2.out
    rw [← tl3 s.ref s.old s.new] at hEy
    have HEy := Lib.hid hEy
    clear hEy
    go_wp2_with fail
    try rw [hY]
    try rw [← htx]
    clear hY hby gy htx e0 e1 e2 c0 c1 c2 c3 c4
    go_loopw [25] (fun i wr => ∃ (k : Nat) (v : Value) (l : List UInt8), i = .int .i64 (k : Int) ∧ k ≤ 3 ∧ Hid (WrSt wr W.heap.size w1.heap.size v l 0) ∧ Hid (E = l ++ ((([s.ref, s.old, s.new].drop k).flatMap encT) ++ (enc s.who.length ++ (encPP P ++ [])))) ∧ Hid (Below W.heap.size W wr) ∧ Hid (wr.heap[tx]? = some (.cells #[.string s.ref, .string s.old, .string s.new] 9 (0, 0))) ∧ Hid (v.ownBlock ≠ some tx)) (fun i _ => 3 - (intOf i).toNat)
    case atStart => exact ⟨0, v2, _, rfl, by decide, HSy, HEy, HBy, HGY, HNOy⟩
    case round =>
      clear HS2 HE2 HB2 HSy HEy HBy HGY HNOy
      obtain ⟨k, v, l, rfl, hk, HSr, HEr, HBr, HGr, HNr⟩ := hrel
      obtain ⟨c0, c1, c2, c3, c4, _, _⟩ := stp_cells (HG.out _ HBr.out)
      obtain ⟨e0, e1, e2⟩ := three_cells HGr.out
      rcases (by omega : k = 0 ∨ k = 1 ∨ k = 2 ∨ k = 3) with rfl | rfl | rfl | rfl
      · have HCb := Lib.hid (wText_enc HSr.out s.ref HT60.out.1 (by have h := HBIG.out; rw [HEr.out, List.length_append] at h; omega))
        go_wp2_with fail
        (with_reducible refine HCb.out.mono ?_)
        rintro e wb hto
        obtain ⟨rfl, vb, hsb, hbb, hxb⟩ := hto.use HBG.out HSr.out
        have HBb := Lib.hid (HBr.out.trans hbb)
        have HSb := Lib.hid hsb
        have HXb := Lib.hid hxb
        have HEb := Lib.hid (HEr.out.trans (List.append_assoc _ _ _).symm)
        clear hsb hbb hxb HCb hto
        have hq := HXb.out tx (lt_of_block HGr.out) HNG.out HNr.out
        have HGb := Lib.hid (hq.1.trans HGr.out)
        have HNb := Lib.hid hq.2
        clear hq e0 e1 e2
        clear c0 c1 c2 c3 c4
        obtain ⟨c0, c1, c2, c3, c4, _, _⟩ := stp_cells (HG.out _ HBb.out)
        go_wp2_with fail
        exact ⟨⟨1, vb, _, rfl, by decide, HSb, Lib.hid (HEb.out.trans (by simp)), HBb, HGb, HNb⟩, by simp [intOf]⟩
      · have HCb := Lib.hid (wText_enc HSr.out s.old HT60.out.2.1 (by have h := HBIG.out; rw [HEr.out, List.length_append] at h; omega))
        go_wp2_with fail
        (with_reducible refine HCb.out.mono ?_)
        rintro e wb hto
        obtain ⟨rfl, vb, hsb, hbb, hxb⟩ := hto.use HBG.out HSr.out
        have HBb := Lib.hid (HBr.out.trans hbb)
        have HSb := Lib.hid hsb
        have HXb := Lib.hid hxb
        have HEb := Lib.hid (HEr.out.trans (List.append_assoc _ _ _).symm)
        clear hsb hbb hxb HCb hto
        have hq := HXb.out tx (lt_of_block HGr.out) HNG.out HNr.out
        have HGb := Lib.hid (hq.1.trans HGr.out)
        have HNb := Lib.hid hq.2
        clear hq e0 e1 e2
        clear c0 c1 c2 c3 c4
        obtain ⟨c0, c1, c2, c3, c4, _, _⟩ := stp_cells (HG.out _ HBb.out)
        go_wp2_with fail
        exact ⟨⟨2, vb, _, rfl, by decide, HSb, Lib.hid (HEb.out.trans (by simp)), HBb, HGb, HNb⟩, by simp [intOf]⟩
      · have HCb := Lib.hid (wText_enc HSr.out s.new HT60.out.2.2 (by have h := HBIG.out; rw [HEr.out, List.length_append] at h; omega))
        go_wp2_with fail
        (with_reducible refine HCb.out.mono ?_)
        rintro e wb hto
        obtain ⟨rfl, vb, hsb, hbb, hxb⟩ := hto.use HBG.out HSr.out
        have HBb := Lib.hid (HBr.out.trans hbb)
        have HSb := Lib.hid hsb
        have HXb := Lib.hid hxb
        have HEb := Lib.hid (HEr.out.trans (List.append_assoc _ _ _).symm)
        clear hsb hbb hxb HCb hto
        have hq := HXb.out tx (lt_of_block HGr.out) HNG.out HNr.out
        have HGb := Lib.hid (hq.1.trans HGr.out)
        have HNb := Lib.hid hq.2
        clear hq e0 e1 e2
        clear c0 c1 c2 c3 c4
        obtain ⟨c0, c1, c2, c3, c4, _, _⟩ := stp_cells (HG.out _ HBb.out)
        go_wp2_with fail
        exact ⟨⟨3, vb, _, rfl, by decide, HSb, Lib.hid (HEb.out.trans (by simp)), HBb, HGb, HNb⟩, by simp [intOf]⟩
      · have HEs := Lib.hid (show E = l ++ (enc s.who.length ++ (encPP P ++ [])) from HEr.out)
        have HSs := HSr
        have HBs := HBr
        clear HSr HEr HBr HGr HNr e0 e1 e2
        have hwl := HWL.out
        have HC4 := Lib.hid (wNumber_good HSs.out ((s.who.length : Int)) (by omega) (by omega) (by have h := HBIG.out; rw [HEs.out, List.length_append] at h; omega))
        rw [show ((s.who.length : Int)).toNat = s.who.length by first | rfl | omega] at HC4
        go_wp2_with fail
        (with_reducible refine HC4.out.mono ?_)
        rintro e w4 hto
        obtain ⟨rfl, v4, hs4, hb4, hx4⟩ := hto.use HBG.out HSs.out
        have HB4 := Lib.hid (HBs.out.trans hb4)
        have HS4 := Lib.hid hs4
        have HX4 := Lib.hid hx4
        have HE4 := Lib.hid (HEs.out.trans (List.append_assoc _ _ _).symm)
        clear hwl hs4 hb4 hx4 HC4 hto
        clear c0 c1 c2 c3 c4
        obtain ⟨c0, c1, c2, c3, c4, _, _⟩ := stp_cells (HG.out _ HB4.out)
        go_wp2_with fail
        go_loopw [41] (fun i wr => ∃ (k : Nat) (v : Value) (l : List UInt8), i = .int .i64 (k : Int) ∧ k ≤ P.length ∧ Hid (WrSt wr W.heap.size w1.heap.size v l 0) ∧ Hid (E = l ++ (encPP (P.drop k) ++ [])) ∧ Hid (Below W.heap.size W wr)) (fun i _ => P.length - (intOf i).toNat)
        case atStart => exact ⟨0, v4, _, rfl, Nat.zero_le _, HS4, Lib.hid (by rw [List.drop_zero]; exact HE4.out), HB4⟩
        case round =>
          clear HS4 HE4 HX4 HB4 c0 c1 c2 c3 c4
          obtain ⟨k, v, l, rfl, hk, HSr, HEr0, HBr⟩ := hrel
          obtain ⟨c0, c1, c2, c3, c4, _, _⟩ := stp_cells (HG.out _ HBr.out)
          by_cases hkl : k < P.length
          · have HKL := Lib.hid hkl
            obtain ⟨x, hx⟩ : ∃ x, x = s.who.getD k 0 := ⟨_, rfl⟩
            obtain ⟨y, hy⟩ : ∃ y, y = s.seals.getD k noB := ⟨_, rfl⟩
            have hst := encPP_step HSP.out HGP.out hkl
            rw [← hx, ← hy] at hst
            have HX := Lib.hid hst.2.1
            have HYS := Lib.hid hst.2.2
            have hx0 : 0 ≤ x := HX.out.1
            have hx1 : x < 8 := HX.out.2
            have HEr := Lib.hid (show E = l ++ (enc x.toNat ++ (y.data.toList ++ (encPP (P.drop (k + 1)) ++ []))) by rw [HEr0.out, hst.1]; simp)
            have hlw : s.who.length = P.length := HLW.out.1
            have hls : s.seals.length = P.length := HLW.out.2
            obtain ⟨bw, ow, g1, _, hcw⟩ := rdI_at (HRW.out _ HBr.out) (by omega)
            obtain ⟨bs, os, g2, _, hcs⟩ := rdS_at' (HRS.out _ HBr.out) (by omega)
            subst g1 g2
            have HRW2 := Lib.hid (fun wr (h : Below W.heap.size W wr) => rdI_cl (HRW.out wr h) (show k < s.who.length by omega))
            have HRS2 := Lib.hid (fun wr (h : Below W.heap.size W wr) => rdS_cl (HRS.out wr h) (show k < s.seals.length by omega))
            rw [← hx] at HRW2
            rw [← hy] at HRS2
            have d0 := HRW2.out _ HBr.out
            have kb : decide ((k : Int) < (s.who.length : Int)) = true := decide_eq_true (by omega)
            have ki : (k : Int) < (s.who.length : Int) := by omega
            have kj : (k : Int) < (s.seals.length : Int) := by omega
            have k0 : (0 : Int) ≤ (k : Int) := by omega
            clear hst hx hy hkl HEr0 hlw hls hcw hcs
            have hw1 : wrap64 ((k : Int) + 1) = (k : Int) + 1 := IntWalk.wrap64_in _ (by have := HKL.out; have := HPL.out; omega)
            have HCa := Lib.hid (wNumber_good HSr.out (x) (by omega) (by omega) (by have h := HBIG.out; rw [HEr.out, List.length_append] at h; omega))
            go_wp2_with fail
            (with_reducible refine HCa.out.mono ?_)
            rintro e wa hto
            obtain ⟨rfl, va, hsa, hba, hxa⟩ := hto.use HBG.out HSr.out
            have HBa := Lib.hid (HBr.out.trans hba)
            have HSa := Lib.hid hsa
            have HXa := Lib.hid hxa
            have HEa := Lib.hid (HEr.out.trans (List.append_assoc _ _ _).symm)
            clear hsa hba hxa HCa hto
            clear c0 c1 c2 c3 c4
            obtain ⟨c0, c1, c2, c3, c4, _, _⟩ := stp_cells (HG.out _ HBa.out)
            have HCb := Lib.hid (wBytes_good HSa.out y (by have h := HBIG.out; rw [HEa.out, List.length_append] at h; have := HYS.out; omega))
            have d1 := HRS2.out _ HBa.out
            go_wp2_with fail
            (with_reducible refine HCb.out.mono ?_)
            rintro e wb hto
            obtain ⟨rfl, vb, hsb, hbb, hxb⟩ := hto.use HBG.out HSa.out
            have HBb := Lib.hid (HBa.out.trans hbb)
            have HSb := Lib.hid hsb
            have HXb := Lib.hid hxb
            have HEb := Lib.hid (HEa.out.trans (List.append_assoc _ _ _).symm)
            clear hsb hbb hxb HCb hto
            clear c0 c1 c2 c3 c4
            obtain ⟨c0, c1, c2, c3, c4, _, _⟩ := stp_cells (HG.out _ HBb.out)
            go_wp2_with fail
            exact ⟨⟨k + 1, vb, _, by first | rfl | (rw [hw1]; rfl), by have := HKL.out; omega, HSb, HEb, HBb⟩, meas_step (n := P.length) _ (by first | rfl | exact hw1) HKL.out⟩
          · have hlw : s.who.length = P.length := HLW.out.1
            have kb : decide ((k : Int) < (s.who.length : Int)) = false := decide_eq_false (by omega)
            have kb2 : decide (k < s.who.length) = false := decide_eq_false (by omega)
            have HEr := Lib.hid (show E = l ++ [] by rw [HEr0.out, List.drop_of_length_le (by omega)]; simp [encPP])
            clear hkl HEr0 hlw
            have HEE := Lib.hid (HEr.out.trans (List.append_nil _))
            have hfin := HSr.out
            rw [← HEE.out] at hfin
            have HDN := Lib.hid (wDone_any (st := (E, 0)) hfin)
            rw [show doneV (E, (0 : Int)) = .tuple #[.string ⟨E.toArray⟩, .int .i64 0] from rfl] at HDN
            obtain ⟨z, hz⟩ : ∃ z : ByteArray, z = ⟨E.toArray⟩ := ⟨_, rfl⟩
            rw [← hz] at HDN
            have HZ := Lib.hid hz
            clear hfin hz
            go_wp2_with fail
            (with_reducible refine HDN.out.mono ?_)
            rintro e wd ⟨rfl, q, rfl⟩
            have HBD := Lib.hid (HW0.out.trans ((below_drewN HBr.out q).mono HW0.out.size))
            go_wp2_with fail
            go_ret2
            exact ⟨by rw [HZ.out]; rfl, HBD.out⟩
  · have n1 : (ge == 0) = false := beq_eq_false_iff_ne.2 hz
    have n2 : (ge != 0) = true := by rw [bne, n1]; rfl
    have hF := HF.out.trans (encF_1 (by rw [← HGE.out]; exact hz))
    rw [← HGE.out] at hF
    subst hF
    clear hz
    go_wp2_with fail
    go_ret2
    exact ⟨rfl, HW0.out.trans (HB1.out.mono HW0.out.size)⟩
end Go.Proofs.YtinhjnbgblieeaaDoor
