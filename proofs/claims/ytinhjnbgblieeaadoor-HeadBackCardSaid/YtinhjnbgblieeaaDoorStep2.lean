/- The walk of package step's Body. -/
import Derived.Test.YtinhjnbgblieeaaDoorStep1
import Derived.Test.YtinhjnbgblieeaaDoorWrUse
namespace Go.Proofs.YtinhjnbgblieeaaDoor
open Go.RowKit
set_option linter.unusedVariables false
set_option linter.unusedSimpArgs false

theorem tl3 (a b c : ByteArray) (r : List UInt8) : [a, b, c].flatMap encT ++ r = encT a ++ (encT b ++ (encT c ++ r)) := by simp
theorem named_size {s : ByteArray} (h : namedR s = true) : s.size ≤ 60 := by
  unfold namedR at h
  rw [Bool.and_eq_true, decide_eq_true_eq] at h
  exact h.1
theorem idOk_size {s : ByteArray} (h : idOk s = true) : s.size ≤ 32 := by
  unfold idOk at h
  rw [Bool.or_eq_true, decide_eq_true_eq, decide_eq_true_eq] at h
  omega
theorem head_sizes {s : Stp} (h : headOk s = true) : s.ref.size ≤ 60 ∧ s.old.size ≤ 32 ∧ s.new.size ≤ 32 := by
  unfold headOk at h
  simp only [Bool.and_eq_true] at h
  exact ⟨named_size h.1, idOk_size h.2.1, idOk_size h.2.2.1⟩
theorem body_length {n : Nat} (hn : n < 200) {s : Stp} (h : headOk s = true) : (bodyL n s).length ≤ 200 := by
  obtain ⟨h1, h2, h3⟩ := head_sizes h
  have e1 := enc9 (n := n) (by omega)
  have e2 := enc9 (n := s.ref.size) (by omega)
  have e3 := enc9 (n := s.old.size) (by omega)
  have e4 := enc9 (n := s.new.size) (by omega)
  simp only [bodyL, encT, List.length_append, toList_length]
  omega
theorem bodyF_1 {at_ : Int} {s : Stp} (h : at_ < 0 ∨ 200 ≤ at_) : bodyF at_ s = (noB, 3) := by unfold bodyF; rw [if_pos h]
theorem bodyF_2 {at_ : Int} {s : Stp} (h : ¬ (at_ < 0 ∨ 200 ≤ at_)) : bodyF at_ s = (⟨(bodyL at_.toNat s).toArray⟩, 0) := by unfold bodyF; rw [if_neg h]; rfl
set_option maxRecDepth 100000 in
set_option maxHeartbeats 3200000 in
theorem bodyStp_any (at_ : Int) (s : Stp) (vw vs : Value) (w : World) (hh : headOk s = true) :
    Calls Tryd.prog 16 #[.int .i64 at_, .agg #[.string s.ref, .string s.old, .string s.new, vw, vs]] w fun e w' => e = .returned (.tuple #[.string (bodyF at_ s).1, .int .i64 (bodyF at_ s).2]) ∧ Below w.heap.size w w' := by
  obtain ⟨F, hF⟩ : ∃ F, F = bodyF at_ s := ⟨_, rfl⟩
  rw [← hF]
  have HF := Lib.hid hF
  obtain ⟨W, hW⟩ : ∃ W, w.alloc (.cells #[.string s.ref, .string s.old, .string s.new, vw, vs] 25) = W := ⟨_, rfl⟩
  have hg0 : W.heap[w.heap.size]? = some (.cells #[.string s.ref, .string s.old, .string s.new, vw, vs] 25 (0, 0)) := by rw [← hW]; exact heap_alloc_new _ _
  have HG := Lib.hid (fun wr (h : Below W.heap.size W wr) => blk_below hg0 h)
  have HW0 := Lib.hid (show Below w.heap.size w W by rw [← hW]; exact (Below.refl _ _).alloc (Nat.le_refl _) _)
  clear hF hg0
  by_cases hat : at_ < 0 ∨ 200 ≤ at_
  · have hF := HF.out.trans (bodyF_1 hat)
    subst hF
    by_cases h0 : at_ < 0
    · have f0 : decide (at_ < 0) = true := decide_eq_true h0
      go_enter Tryd.func16, Tryd.ntmps16
      go_wp2_with fail
      go_ret2
      exact ⟨rfl, HW0.out⟩
    · have f0 : decide (at_ < 0) = false := decide_eq_false h0
      have f1 : decide (200 ≤ at_) = true := decide_eq_true (by omega)
      go_enter Tryd.func16, Tryd.ntmps16
      go_wp2_with fail
      go_ret2
      exact ⟨rfl, HW0.out⟩
  · have hF := HF.out.trans (bodyF_2 hat)
    have f0 : decide (at_ < 0) = false := decide_eq_false (by omega)
    have f1 : decide (200 ≤ at_) = false := decide_eq_false (by omega)
    have ha0 : 0 ≤ at_ := by omega
    have ha1 : at_ < 200 := by omega
    obtain ⟨E, hE⟩ : ∃ E, E = bodyL at_.toNat s := ⟨_, rfl⟩
    rw [← hE] at hF
    have HBIG := Lib.hid (show E.length ≤ 4000 by rw [hE]; have := body_length (n := at_.toNat) (by omega) hh; omega)
    have HT60 := Lib.hid (show s.ref.size ≤ 4096 ∧ s.old.size ≤ 4096 ∧ s.new.size ≤ 4096 by have := head_sizes hh; omega)
    have HE2 := Lib.hid (show E = [] ++ (enc at_.toNat ++ (encT s.ref ++ (encT s.old ++ (encT s.new ++ [])))) by rw [List.append_nil]; exact hE)
    obtain ⟨w1, hw1⟩ : ∃ w1, w1 = W := ⟨_, rfl⟩
    obtain ⟨X, hX⟩ : ∃ X, w1.alloc (.cells #[.slice none 0 0, .int .i64 0] 76) = X := ⟨_, rfl⟩
    have hbx : Below W.heap.size W X := by rw [← hX, hw1]; exact (Below.refl _ _).alloc (Nat.le_refl _) _
    have HB2 := Lib.hid hbx
    have HBG := Lib.hid (show W.heap.size ≤ w1.heap.size by rw [hw1]; exact Nat.le_refl _)
    have HS2 := Lib.hid (show WrSt X W.heap.size w1.heap.size (.slice none 0 0) [] 0 from ⟨by rw [← hX]; exact heap_alloc_new _ _, World.ownsRow_nil _ _ _ _, by simp [Value.ownBlock], hbx.size⟩)
    obtain ⟨c0, c1, c2, c3, c4, _, _⟩ := stp_cells (HG.out _ hbx)
    have hX' : W.alloc (.cells #[.slice none 0 0, .int .i64 0] 76) = X := by rw [← hw1]; exact hX
    have hsz1 : W.heap.size = w1.heap.size := by rw [hw1]
    subst hF
    clear hE hat hh hbx hX hw1
    go_enter Tryd.func16, Tryd.ntmps16
    have HC3 := Lib.hid (wNumber_good HS2.out (at_) (by omega) (by omega) (by have h := HBIG.out; rw [HE2.out, List.length_append] at h; omega))
    go_wp2_with fail
    (with_reducible refine HC3.out.mono ?_)
    rintro e w3 hto
    obtain ⟨rfl, v3, hs3, hb3, hx3⟩ := hto.use HBG.out HS2.out
    have HB3 := Lib.hid (HB2.out.trans hb3)
    have HS3 := Lib.hid hs3
    have HX3 := Lib.hid hx3
    have HE3 := Lib.hid (HE2.out.trans (List.append_assoc _ _ _).symm)
    clear hs3 hb3 hx3 HC3 hto
    clear c0 c1 c2 c3 c4
    obtain ⟨c0, c1, c2, c3, c4, _, _⟩ := stp_cells (HG.out _ HB3.out)
    obtain ⟨Y, hY⟩ : ∃ Y, w3.alloc (.cells #[.string s.ref, .string s.old, .string s.new] 9) = Y := ⟨_, rfl⟩
    have hby : Below w3.heap.size w3 Y := by rw [← hY]; exact (Below.refl _ _).alloc (Nat.le_refl _) _
    have gy : Y.heap[w3.heap.size]? = some (.cells #[.string s.ref, .string s.old, .string s.new] 9 (0, 0)) := by rw [← hY]; exact heap_alloc_new _ _
    obtain ⟨e0, e1, e2⟩ := three_cells gy
    have HSy := Lib.hid (HS3.out.below hby)
    have HBy := Lib.hid (HB3.out.trans (hby.mono HB3.out.size))
    have HTX := Lib.hid (show w3.heap.size < Y.heap.size by rw [← hY]; simp)
    have HNG := Lib.hid (show w3.heap.size ≠ w1.heap.size from fun e => by have := lt_of_block HS3.out.blk; omega)
    have HNOy := Lib.hid (show v3.ownBlock ≠ some w3.heap.size from fun e => by obtain ⟨_, cs, f, hc⟩ := owns_elem HS3.out.own e; have := lt_of_block hc; omega)
    have HGY := Lib.hid gy
    obtain ⟨tx, htx⟩ : ∃ tx, tx = w3.heap.size := ⟨_, rfl⟩
    have HTX2 := Lib.hid htx
    rw [← htx] at HNG HNOy HGY HTX e0 e1 e2
    have hEy := HE3.out
    rw [← tl3 s.ref s.old s.new] at hEy
    have HEy := Lib.hid hEy
    clear hEy
    go_wp2_with fail
    try rw [hY]
    try rw [← htx]
    clear hY hby gy htx e0 e1 e2 c0 c1 c2 c3 c4
    go_loopw [28] (fun i wr => ∃ (k : Nat) (v : Value) (l : List UInt8), i = .int .i64 (k : Int) ∧ k ≤ 3 ∧ Hid (WrSt wr W.heap.size w1.heap.size v l 0) ∧ Hid (E = l ++ ((([s.ref, s.old, s.new].drop k).flatMap encT) ++ [])) ∧ Hid (Below W.heap.size W wr) ∧ Hid (wr.heap[tx]? = some (.cells #[.string s.ref, .string s.old, .string s.new] 9 (0, 0))) ∧ Hid (v.ownBlock ≠ some tx)) (fun i _ => 3 - (intOf i).toNat)
    case atStart => exact ⟨0, v3, _, rfl, by decide, HSy, HEy, HBy, HGY, HNOy⟩
    case round =>
      clear HS2 HS3 HE2 HE3 HX3 HB2 HB3 HSy HEy HBy HGY HNOy
      obtain ⟨k, v, l, rfl, hk, HSr, HEr, HBr, HGr, HNr⟩ := hrel
      obtain ⟨c0, c1, c2, c3, c4, _, _⟩ := stp_cells (HG.out _ HBr.out)
      obtain ⟨e0, e1, e2⟩ := three_cells HGr.out
      rcases (by omega : k = 0 ∨ k = 1 ∨ k = 2 ∨ k = 3) with rfl | rfl | rfl | rfl
      · have HCb := Lib.hid (wText_enc HSr.out s.ref HT60.out.1 (by have h := HBIG.out; rw [HEr.out, List.length_append] at h; omega))
        go_wp2_with fail
        (with_reducible refine HCb.out.mono ?_)
        rintro e wb hto
        obtain ⟨rfl, vb, hsb, hbb, hxb⟩ := hto.use HBG.out HSr.out
        have HBb := Lib.hid (HBr.out.trans hbb)
        have HSb := Lib.hid hsb
        have HXb := Lib.hid hxb
        have HEb := Lib.hid (HEr.out.trans (List.append_assoc _ _ _).symm)
        clear hsb hbb hxb HCb hto
        have hq := HXb.out tx (lt_of_block HGr.out) HNG.out HNr.out
        have HGb := Lib.hid (hq.1.trans HGr.out)
        have HNb := Lib.hid hq.2
        clear hq e0 e1 e2
        clear c0 c1 c2 c3 c4
        obtain ⟨c0, c1, c2, c3, c4, _, _⟩ := stp_cells (HG.out _ HBb.out)
        go_wp2_with fail
        exact ⟨⟨1, vb, _, rfl, by decide, HSb, Lib.hid (HEb.out.trans (by simp)), HBb, HGb, HNb⟩, by simp [intOf]⟩
      · have HCb := Lib.hid (wText_enc HSr.out s.old HT60.out.2.1 (by have h := HBIG.out; rw [HEr.out, List.length_append] at h; omega))
        go_wp2_with fail
        (with_reducible refine HCb.out.mono ?_)
        rintro e wb hto
        obtain ⟨rfl, vb, hsb, hbb, hxb⟩ := hto.use HBG.out HSr.out
        have HBb := Lib.hid (HBr.out.trans hbb)
        have HSb := Lib.hid hsb
        have HXb := Lib.hid hxb
        have HEb := Lib.hid (HEr.out.trans (List.append_assoc _ _ _).symm)
        clear hsb hbb hxb HCb hto
        have hq := HXb.out tx (lt_of_block HGr.out) HNG.out HNr.out
        have HGb := Lib.hid (hq.1.trans HGr.out)
        have HNb := Lib.hid hq.2
        clear hq e0 e1 e2
        clear c0 c1 c2 c3 c4
        obtain ⟨c0, c1, c2, c3, c4, _, _⟩ := stp_cells (HG.out _ HBb.out)
        go_wp2_with fail
        exact ⟨⟨2, vb, _, rfl, by decide, HSb, Lib.hid (HEb.out.trans (by simp)), HBb, HGb, HNb⟩, by simp [intOf]⟩
      · have HCb := Lib.hid (wText_enc HSr.out s.new HT60.out.2.2 (by have h := HBIG.out; rw [HEr.out, List.length_append] at h; omega))
        go_wp2_with fail
        (with_reducible refine HCb.out.mono ?_)
        rintro e wb hto
        obtain ⟨rfl, vb, hsb, hbb, hxb⟩ := hto.use HBG.out HSr.out
        have HBb := Lib.hid (HBr.out.trans hbb)
        have HSb := Lib.hid hsb
        have HXb := Lib.hid hxb
        have HEb := Lib.hid (HEr.out.trans (List.append_assoc _ _ _).symm)
        clear hsb hbb hxb HCb hto
        have hq := HXb.out tx (lt_of_block HGr.out) HNG.out HNr.out
        have HGb := Lib.hid (hq.1.trans HGr.out)
        have HNb := Lib.hid hq.2
        clear hq e0 e1 e2
        clear c0 c1 c2 c3 c4
        obtain ⟨c0, c1, c2, c3, c4, _, _⟩ := stp_cells (HG.out _ HBb.out)
        go_wp2_with fail
        exact ⟨⟨3, vb, _, rfl, by decide, HSb, Lib.hid (HEb.out.trans (by simp)), HBb, HGb, HNb⟩, by simp [intOf]⟩
      · have HEz := Lib.hid (show E = l ++ [] from HEr.out)
        have HSz := HSr
        have HBz := HBr
        have HEE := Lib.hid (HEz.out.trans (List.append_nil _))
        have hfin := HSz.out
        rw [← HEE.out] at hfin
        have HDN := Lib.hid (wDone_any (st := (E, 0)) hfin)
        rw [show doneV (E, (0 : Int)) = .tuple #[.string ⟨E.toArray⟩, .int .i64 0] from rfl] at HDN
        obtain ⟨z, hz⟩ : ∃ z : ByteArray, z = ⟨E.toArray⟩ := ⟨_, rfl⟩
        rw [← hz] at HDN
        have HZ := Lib.hid hz
        clear hfin hz
        go_wp2_with fail
        (with_reducible refine HDN.out.mono ?_)
        rintro e wd ⟨rfl, q, rfl⟩
        have HBD := Lib.hid (HW0.out.trans ((below_drewN HBz.out q).mono HW0.out.size))
        go_wp2_with fail
        go_ret2
        exact ⟨by rw [HZ.out]; rfl, HBD.out⟩
end Go.Proofs.YtinhjnbgblieeaaDoor
