/- The walk of ObjectIds. -/
import Derived.Test.YtmjnohblifihmaaDoorObjectKeep
import Derived.Test.YtmjnohblifihmaaDoorSumSum
namespace Go.Proofs.YtmjnohblifihmaaDoor
open Go.RowKit
set_option linter.unusedVariables false
set_option linter.unusedSimpArgs false

set_option maxRecDepth 100000 in
set_option maxHeartbeats 3200000 in
theorem id_any (s : ByteArray) (w : World) (ht : Tab w) : Calls Tryd.prog 7 #[.string s] w fun e w' => e = .returned (.string (sumF s)) ∧ Below w.heap.size w w' := by
  have H := Lib.hid (sum_any s w ht)
  clear ht
  go_enter Tryd.func7, Tryd.ntmps7
  go_wp2_with fail
  (with_reducible refine H.out.mono ?_)
  rintro e w1 ⟨rfl, hb⟩
  go_wp2_with fail
  go_ret
  exact ⟨rfl, hb⟩
set_option maxRecDepth 100000 in
set_option maxHeartbeats 3200000 in
theorem objectIds_walk {w : World} (ht : Tab w) (o : Obj) (ve vp : Value) (he : rdE w ve o.ents) (hp : rdS w vp o.pars) (p : Obj) (ue up : Value) (ge : rdE w ue p.ents) (gp : rdS w up p.pars) :
    Calls Tryd.prog 3 #[.agg (objC o ve vp).toArray, .agg (objC p ue up).toArray] w fun e w' => e = .returned (.bool true) ∧ Below w.heap.size w w' := by
  obtain ⟨C, hC⟩ : ∃ C : Array Value, C = (objC o ve vp).toArray := ⟨_, rfl⟩
  obtain ⟨D, hD⟩ : ∃ D : Array Value, D = (objC p ue up).toArray := ⟨_, rfl⟩
  have hszC : C.size = 9 := by rw [hC]; rfl
  have hszD : D.size = 9 := by rw [hD]; rfl
  obtain ⟨W, hW⟩ : ∃ W, (w.alloc (.cells C 25)).alloc (.cells D 25) = W := ⟨_, rfl⟩
  have hb1 : Below w.heap.size w W := by rw [← hW]; exact ((Below.refl _ _).alloc (Nat.le_refl _) _).alloc (by simp) _
  have gC0 : W.heap[w.heap.size]? = some (.cells C 25 (0, 0)) := by rw [← hW, Below.heap_alloc _ _ _ (by simp)]; exact heap_alloc_new _ _
  have gD0 : W.heap[w.heap.size + 1]? = some (.cells D 25 (0, 0)) := by rw [← hW]; have := heap_alloc_new (w.alloc (.cells C 25)) (.cells D 25); simpa using this
  have HGC := Lib.hid (fun wr (h : Below W.heap.size W wr) => blk_below gC0 h)
  have HGD := Lib.hid (fun wr (h : Below W.heap.size W wr) => blk_below gD0 h)
  have HEO := Lib.hid (fun w' (hb : Below W.heap.size W w') => encode_any o ve vp w' ((rdRow.below he hb1).below hb) ((hp.below hb1).below hb))
  have HEP := Lib.hid (fun w' (hb : Below W.heap.size W w') => encode_any p ue up w' ((rdRow.below ge hb1).below hb) ((gp.below hb1).below hb))
  have HSO := Lib.hid (fun w' (hb : Below W.heap.size W w') => sameO_any o p ve vp ue up w' ((rdRow.below he hb1).below hb) ((hp.below hb1).below hb) ((rdRow.below ge hb1).below hb) ((gp.below hb1).below hb))
  have HT := Lib.hid (fun w' (hb : Below W.heap.size W w') => (ht.below hb1).below hb)
  have HW0 := Lib.hid hb1
  have HB0 := Lib.hid (Below.refl W.heap.size W)
  rw [← hC, ← hD] at *
  obtain ⟨⟨a, e⟩, hae⟩ : ∃ q, q = encodeF o := ⟨_, rfl⟩
  obtain ⟨⟨b, f⟩, hbf⟩ : ∃ q, q = encodeF p := ⟨_, rfl⟩
  rw [← hae] at HEO
  rw [← hbf] at HEP
  have HA := Lib.hid hae
  have HBF := Lib.hid hbf
  have HSQ := Lib.hid (show e = 0 → f = 0 → (a = b ↔ o = p) from fun h1 h2 => by
    obtain ⟨g1, g2, _⟩ := enc_ok (o := o) (by rw [← hae]; exact h1)
    obtain ⟨g3, g4, _⟩ := enc_ok (o := p) (by rw [← hbf]; exact h2)
    rw [← hae] at g2
    rw [← hbf] at g4
    simp only at g2 g4
    refine ⟨fun h => encO_inj g1 g3 ?_, fun h => by rw [g2, g4, h]⟩
    rw [g2, g4] at h
    simpa using h)
  clear hC hD he hp ge gp hb1 ht hae hbf
  go_enter Tryd.func3, Tryd.ntmps3
  go_wp2_with (first | (refine wpList_load_blk (by rfl) 25 (.tmp 2) rfl (w.heap.size) rfl (.agg C) rfl gC0 Tryd.underlying25 rfl (by rw [hszC]; exact info_ob) ?_) | (refine wpList_load_blk (by rfl) 25 (.tmp 3) rfl (w.heap.size + 1) rfl (.agg D) rfl gD0 Tryd.underlying25 rfl (by rw [hszD]; exact info_ob) ?_))
  (with_reducible refine (HEO.out _ HB0.out).mono ?_)
  rintro e w1 ⟨rfl, hb⟩
  have HB1 := Lib.hid (HB0.out.trans (hb.mono HB0.out.size))
  have gC1 := HGC.out _ HB1.out
  have gD1 := HGD.out _ HB1.out
  clear hb gC0 gD0
  clear hW
  go_wp2_with (first | (refine wpList_load_blk (by rfl) 25 (.tmp 2) rfl (w.heap.size) rfl (.agg C) rfl gC1 Tryd.underlying25 rfl (by rw [hszC]; exact info_ob) ?_) | (refine wpList_load_blk (by rfl) 25 (.tmp 3) rfl (w.heap.size + 1) rfl (.agg D) rfl gD1 Tryd.underlying25 rfl (by rw [hszD]; exact info_ob) ?_))
  (with_reducible refine (HEP.out _ HB1.out).mono ?_)
  rintro e w2 ⟨rfl, hb⟩
  have HB2 := Lib.hid (HB1.out.trans (hb.mono HB1.out.size))
  have gC2 := HGC.out _ HB2.out
  have gD2 := HGD.out _ HB2.out
  clear hb gC1 gD1
  by_cases hez : e = 0
  · subst hez
    by_cases hfz : f = 0
    · subst hfz
      have hiff := HSQ.out rfl rfl
      by_cases hab : a = b
      · have hoo : (a.toList == b.toList) = true := by rw [hab]; exact beq_yes _
        have HOP := Lib.hid (hiff.1 hab)
        clear hab hiff
        go_wp2_with (first | (refine wpList_load_blk (by rfl) 25 (.tmp 2) rfl (w.heap.size) rfl (.agg C) rfl gC2 Tryd.underlying25 rfl (by rw [hszC]; exact info_ob) ?_) | (refine wpList_load_blk (by rfl) 25 (.tmp 3) rfl (w.heap.size + 1) rfl (.agg D) rfl gD2 Tryd.underlying25 rfl (by rw [hszD]; exact info_ob) ?_))
        (with_reducible refine (objects_any _).mono ?_)
        rintro e w3 ⟨rfl, hb⟩
        have HB3 := Lib.hid (HB2.out.trans (hb.mono HB2.out.size))
        have gC3 := HGC.out _ HB3.out
        have gD3 := HGD.out _ HB3.out
        clear hb gC2 gD2
        go_wp2_with (first | (refine wpList_load_blk (by rfl) 25 (.tmp 2) rfl (w.heap.size) rfl (.agg C) rfl gC3 Tryd.underlying25 rfl (by rw [hszC]; exact info_ob) ?_) | (refine wpList_load_blk (by rfl) 25 (.tmp 3) rfl (w.heap.size + 1) rfl (.agg D) rfl gD3 Tryd.underlying25 rfl (by rw [hszD]; exact info_ob) ?_))
        (with_reducible refine (HSO.out _ HB3.out).mono ?_)
        rintro e w4 ⟨⟨sb, rfl, hsb⟩, hb⟩
        have HB4 := Lib.hid (HB3.out.trans (hb.mono HB3.out.size))
        have gC4 := HGC.out _ HB4.out
        have gD4 := HGD.out _ HB4.out
        clear hb gC3 gD3
        obtain rfl : sb = true := hsb.2 HOP.out
        clear hsb
        go_wp2_with (first | (refine wpList_load_blk (by rfl) 25 (.tmp 2) rfl (w.heap.size) rfl (.agg C) rfl gC4 Tryd.underlying25 rfl (by rw [hszC]; exact info_ob) ?_) | (refine wpList_load_blk (by rfl) 25 (.tmp 3) rfl (w.heap.size + 1) rfl (.agg D) rfl gD4 Tryd.underlying25 rfl (by rw [hszD]; exact info_ob) ?_))
        go_ret
        exact ⟨rfl, HW0.out.trans (HB4.out.mono HW0.out.size)⟩
      · have hoo : (a.toList == b.toList) = false := beq_no hab
        have HOP := Lib.hid (show ¬ o = p from fun h => hab (hiff.2 h))
        clear hab hiff
        go_wp2_with (first | (refine wpList_load_blk (by rfl) 25 (.tmp 2) rfl (w.heap.size) rfl (.agg C) rfl gC2 Tryd.underlying25 rfl (by rw [hszC]; exact info_ob) ?_) | (refine wpList_load_blk (by rfl) 25 (.tmp 3) rfl (w.heap.size + 1) rfl (.agg D) rfl gD2 Tryd.underlying25 rfl (by rw [hszD]; exact info_ob) ?_))
        (with_reducible refine (HSO.out _ HB2.out).mono ?_)
        rintro e w3 ⟨⟨sb, rfl, hsb⟩, hb⟩
        have HB3 := Lib.hid (HB2.out.trans (hb.mono HB2.out.size))
        have gC3 := HGC.out _ HB3.out
        have gD3 := HGD.out _ HB3.out
        clear hb gC2 gD2
        obtain rfl : sb = false := by cases sb with
          | false => rfl
          | true => exact absurd (hsb.1 rfl) HOP.out
        clear hsb
        go_wp2_with (first | (refine wpList_load_blk (by rfl) 25 (.tmp 2) rfl (w.heap.size) rfl (.agg C) rfl gC3 Tryd.underlying25 rfl (by rw [hszC]; exact info_ob) ?_) | (refine wpList_load_blk (by rfl) 25 (.tmp 3) rfl (w.heap.size + 1) rfl (.agg D) rfl gD3 Tryd.underlying25 rfl (by rw [hszD]; exact info_ob) ?_))
        (with_reducible refine (id_any a _ (HT.out _ HB3.out)).mono ?_)
        rintro e w4 ⟨rfl, hb⟩
        have HB4 := Lib.hid (HB3.out.trans (hb.mono HB3.out.size))
        have gC4 := HGC.out _ HB4.out
        have gD4 := HGD.out _ HB4.out
        clear hb gC3 gD3
        go_wp2_with (first | (refine wpList_load_blk (by rfl) 25 (.tmp 2) rfl (w.heap.size) rfl (.agg C) rfl gC4 Tryd.underlying25 rfl (by rw [hszC]; exact info_ob) ?_) | (refine wpList_load_blk (by rfl) 25 (.tmp 3) rfl (w.heap.size + 1) rfl (.agg D) rfl gD4 Tryd.underlying25 rfl (by rw [hszD]; exact info_ob) ?_))
        (with_reducible refine (id_any b _ (HT.out _ HB4.out)).mono ?_)
        rintro e w5 ⟨rfl, hb⟩
        have HB5 := Lib.hid (HB4.out.trans (hb.mono HB4.out.size))
        have gC5 := HGC.out _ HB5.out
        have gD5 := HGD.out _ HB5.out
        clear hb gC4 gD4
        have HSA := Lib.hid (fun w' (hb : Below W.heap.size W w') => sum_any a w' (HT.out _ hb))
        have HSB := Lib.hid (fun w' (hb : Below W.heap.size W w') => sum_any b w' (HT.out _ hb))
        obtain ⟨sa, hsa⟩ : ∃ s, s = sumF a := ⟨_, rfl⟩
        obtain ⟨sb2, hsb2⟩ : ∃ s, s = sumF b := ⟨_, rfl⟩
        rw [← hsa] at HSA ⊢
        rw [← hsb2] at HSB ⊢
        clear hsa hsb2
        by_cases hss : sa = sb2
        · have hs1 : (sa.toList == sb2.toList) = true := by rw [hss]; exact beq_yes _
          have hs2 : (sa.toList != sb2.toList) = false := by rw [bne, hs1]; rfl
          clear hss
          go_wp2_with (first | (refine wpList_load_blk (by rfl) 25 (.tmp 2) rfl (w.heap.size) rfl (.agg C) rfl gC5 Tryd.underlying25 rfl (by rw [hszC]; exact info_ob) ?_) | (refine wpList_load_blk (by rfl) 25 (.tmp 3) rfl (w.heap.size + 1) rfl (.agg D) rfl gD5 Tryd.underlying25 rfl (by rw [hszD]; exact info_ob) ?_))
          (with_reducible refine (HSA.out _ HB5.out).mono ?_)
          rintro e w6 ⟨rfl, hb⟩
          have HB6 := Lib.hid (HB5.out.trans (hb.mono HB5.out.size))
          have gC6 := HGC.out _ HB6.out
          have gD6 := HGD.out _ HB6.out
          clear hb gC5 gD5
          go_wp2_with (first | (refine wpList_load_blk (by rfl) 25 (.tmp 2) rfl (w.heap.size) rfl (.agg C) rfl gC6 Tryd.underlying25 rfl (by rw [hszC]; exact info_ob) ?_) | (refine wpList_load_blk (by rfl) 25 (.tmp 3) rfl (w.heap.size + 1) rfl (.agg D) rfl gD6 Tryd.underlying25 rfl (by rw [hszD]; exact info_ob) ?_))
          (with_reducible refine (HSB.out _ HB6.out).mono ?_)
          rintro e w7 ⟨rfl, hb⟩
          have HB7 := Lib.hid (HB6.out.trans (hb.mono HB6.out.size))
          have gC7 := HGC.out _ HB7.out
          have gD7 := HGD.out _ HB7.out
          clear hb gC6 gD6
          go_wp2_with (first | (refine wpList_load_blk (by rfl) 25 (.tmp 2) rfl (w.heap.size) rfl (.agg C) rfl gC7 Tryd.underlying25 rfl (by rw [hszC]; exact info_ob) ?_) | (refine wpList_load_blk (by rfl) 25 (.tmp 3) rfl (w.heap.size + 1) rfl (.agg D) rfl gD7 Tryd.underlying25 rfl (by rw [hszD]; exact info_ob) ?_))
          (with_reducible refine (objects_any _).mono ?_)
          rintro e w8 ⟨rfl, hb⟩
          have HB8 := Lib.hid (HB7.out.trans (hb.mono HB7.out.size))
          have gC8 := HGC.out _ HB8.out
          have gD8 := HGD.out _ HB8.out
          clear hb gC7 gD7
          go_wp2_with (first | (refine wpList_load_blk (by rfl) 25 (.tmp 2) rfl (w.heap.size) rfl (.agg C) rfl gC8 Tryd.underlying25 rfl (by rw [hszC]; exact info_ob) ?_) | (refine wpList_load_blk (by rfl) 25 (.tmp 3) rfl (w.heap.size + 1) rfl (.agg D) rfl gD8 Tryd.underlying25 rfl (by rw [hszD]; exact info_ob) ?_))
          go_ret
          exact ⟨rfl, HW0.out.trans (HB8.out.mono HW0.out.size)⟩
        · have hs1 : (sa.toList == sb2.toList) = false := beq_no hss
          have hs2 : (sa.toList != sb2.toList) = true := by rw [bne, hs1]; rfl
          clear hss
          go_wp2_with (first | (refine wpList_load_blk (by rfl) 25 (.tmp 2) rfl (w.heap.size) rfl (.agg C) rfl gC5 Tryd.underlying25 rfl (by rw [hszC]; exact info_ob) ?_) | (refine wpList_load_blk (by rfl) 25 (.tmp 3) rfl (w.heap.size + 1) rfl (.agg D) rfl gD5 Tryd.underlying25 rfl (by rw [hszD]; exact info_ob) ?_))
          (with_reducible refine (objects_any _).mono ?_)
          rintro e w6 ⟨rfl, hb⟩
          have HB6 := Lib.hid (HB5.out.trans (hb.mono HB5.out.size))
          have gC6 := HGC.out _ HB6.out
          have gD6 := HGD.out _ HB6.out
          clear hb gC5 gD5
          go_wp2_with (first | (refine wpList_load_blk (by rfl) 25 (.tmp 2) rfl (w.heap.size) rfl (.agg C) rfl gC6 Tryd.underlying25 rfl (by rw [hszC]; exact info_ob) ?_) | (refine wpList_load_blk (by rfl) 25 (.tmp 3) rfl (w.heap.size + 1) rfl (.agg D) rfl gD6 Tryd.underlying25 rfl (by rw [hszD]; exact info_ob) ?_))
          go_ret
          exact ⟨rfl, HW0.out.trans (HB6.out.mono HW0.out.size)⟩
    · have h1 : (f == 0) = false := beq_eq_false_iff_ne.2 hfz
      have h2 : (f != 0) = true := by rw [bne, h1]; rfl
      clear hfz
      go_wp2_with (first | (refine wpList_load_blk (by rfl) 25 (.tmp 2) rfl (w.heap.size) rfl (.agg C) rfl gC2 Tryd.underlying25 rfl (by rw [hszC]; exact info_ob) ?_) | (refine wpList_load_blk (by rfl) 25 (.tmp 3) rfl (w.heap.size + 1) rfl (.agg D) rfl gD2 Tryd.underlying25 rfl (by rw [hszD]; exact info_ob) ?_))
      (with_reducible refine (objects_any _).mono ?_)
      rintro e w3 ⟨rfl, hb⟩
      have HB3 := Lib.hid (HB2.out.trans (hb.mono HB2.out.size))
      have gC3 := HGC.out _ HB3.out
      have gD3 := HGD.out _ HB3.out
      clear hb gC2 gD2
      go_wp2_with (first | (refine wpList_load_blk (by rfl) 25 (.tmp 2) rfl (w.heap.size) rfl (.agg C) rfl gC3 Tryd.underlying25 rfl (by rw [hszC]; exact info_ob) ?_) | (refine wpList_load_blk (by rfl) 25 (.tmp 3) rfl (w.heap.size + 1) rfl (.agg D) rfl gD3 Tryd.underlying25 rfl (by rw [hszD]; exact info_ob) ?_))
      go_ret
      exact ⟨rfl, HW0.out.trans (HB3.out.mono HW0.out.size)⟩
  · have h1 : (e == 0) = false := beq_eq_false_iff_ne.2 hez
    have h2 : (e != 0) = true := by rw [bne, h1]; rfl
    clear hez
    go_wp2_with (first | (refine wpList_load_blk (by rfl) 25 (.tmp 2) rfl (w.heap.size) rfl (.agg C) rfl gC2 Tryd.underlying25 rfl (by rw [hszC]; exact info_ob) ?_) | (refine wpList_load_blk (by rfl) 25 (.tmp 3) rfl (w.heap.size + 1) rfl (.agg D) rfl gD2 Tryd.underlying25 rfl (by rw [hszD]; exact info_ob) ?_))
    (with_reducible refine (objects_any _).mono ?_)
    rintro e w3 ⟨rfl, hb⟩
    have HB3 := Lib.hid (HB2.out.trans (hb.mono HB2.out.size))
    have gC3 := HGC.out _ HB3.out
    have gD3 := HGD.out _ HB3.out
    clear hb gC2 gD2
    go_wp2_with (first | (refine wpList_load_blk (by rfl) 25 (.tmp 2) rfl (w.heap.size) rfl (.agg C) rfl gC3 Tryd.underlying25 rfl (by rw [hszC]; exact info_ob) ?_) | (refine wpList_load_blk (by rfl) 25 (.tmp 3) rfl (w.heap.size + 1) rfl (.agg D) rfl gD3 Tryd.underlying25 rfl (by rw [hszD]; exact info_ob) ?_))
    go_ret
    exact ⟨rfl, HW0.out.trans (HB3.out.mono HW0.out.size)⟩
end Go.Proofs.YtmjnohblifihmaaDoor
