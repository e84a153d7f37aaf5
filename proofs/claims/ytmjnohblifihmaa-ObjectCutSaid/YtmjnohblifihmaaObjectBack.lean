/- The walk of ObjectBack. -/
import Derived.Test.YtmjnohblifihmaaObject6d
namespace Go.Proofs.Ytmjnohblifihmaa
open Go.RowKit
set_option linter.unusedVariables false
set_option linter.unusedSimpArgs false

theorem rd_one {w : World} {size n : Nat} {v : Value} {xs : List Value} (h : rdRow w size v n xs) : v.oneCell' = true := by
  obtain ⟨_, ao, cap, rfl, _⟩ := h
  rfl
theorem objC_one {w : World} {o : Obj} {ve vp : Value} (he : rdE w ve o.ents) (hp : rdS w vp o.pars) : (objC o ve vp).toArray.all (·.oneCell') = true := by
  have h1 := rd_one he
  have h2 := rd_one hp
  simp only [objC, List.all_toArray, List.all_cons, List.all_nil, h1, h2]
  rfl
set_option maxRecDepth 100000 in
set_option maxHeartbeats 3200000 in
theorem objectBack_walk {w : World} (o : Obj) (ve vp : Value) (he : rdE w ve o.ents) (hp : rdS w vp o.pars) :
    Calls Try.prog 3 #[.agg (objC o ve vp).toArray] w fun e w' => e = .returned (.bool true) ∧ Below w.heap.size w w' := by
  obtain ⟨C, hC⟩ : ∃ C : Array Value, C = (objC o ve vp).toArray := ⟨_, rfl⟩
  have hszC : C.size = 9 := by rw [hC]; rfl
  obtain ⟨W, hW⟩ : ∃ W, w.alloc (.cells C 25) = W := ⟨_, rfl⟩
  have hb1 : Below w.heap.size w W := by rw [← hW]; exact (Below.refl _ _).alloc (Nat.le_refl _) _
  have gC0 : W.heap[w.heap.size]? = some (.cells C 25 (0, 0)) := by rw [← hW]; exact heap_alloc_new _ _
  have HGC := Lib.hid (fun wr (h : Below W.heap.size W wr) => blk_below gC0 h)
  have HEO := Lib.hid (fun w' (hb : Below W.heap.size W w') => encode_any o ve vp w' ((rdRow.below he hb1).below hb) ((hp.below hb1).below hb))
  have HGO := Lib.hid (fun w' (hb : Below W.heap.size W w') => ogood_any o ve vp w' ((rdRow.below he hb1).below hb) ((hp.below hb1).below hb))
  have HSO := Lib.hid (fun w' (hb : Below W.heap.size W w') ue up (ge : rdE w' ue o.ents) (gp : rdS w' up o.pars) => sameO_any o o ue up ve vp w' ge gp ((rdRow.below he hb1).below hb) ((hp.below hb1).below hb))
  have HW0 := Lib.hid hb1
  have HB0 := Lib.hid (Below.refl W.heap.size W)
  rw [← hC] at *
  obtain ⟨⟨a, e⟩, hae⟩ : ∃ q, q = encodeF o := ⟨_, rfl⟩
  rw [← hae] at HEO
  have HA := Lib.hid hae
  clear hC he hp hb1 hae
  go_enter Try.func3, Try.ntmps3
  go_wp2_with (first | (refine wpList_load_blk (by rfl) 25 (.tmp 1) rfl (w.heap.size) rfl (.agg C) rfl gC0 Try.underlying25 rfl (by rw [hszC]; exact info_ob) ?_))
  (with_reducible refine (HEO.out _ HB0.out).mono ?_)
  rintro e w1 ⟨rfl, hb⟩
  have HB1 := Lib.hid (HB0.out.trans (hb.mono HB0.out.size))
  have gC1 := HGC.out _ HB1.out
  clear hb gC0
  clear hW
  by_cases hez : e = 0
  · subst hez
    obtain ⟨hg, ha, hl⟩ := enc_ok (o := o) (by rw [← HA.out])
    rw [← HA.out] at ha
    simp only at ha
    rw [hg] at HGO
    have hdec : decodeF a = (o, 0) := by rw [ha]; exact decode_encode hg hl
    have hasz : a.size ≤ 8192 := by rw [ha, ← toList_length, toList_mk]; exact hl
    have HD := Lib.hid (fun w' => decode_any a w' (by omega))
    rw [hdec] at HD
    have hlb : decide ((a.size : Int) ≤ 8192) = true := decide_eq_true (by omega)
    have hlb2 : decide (a.size ≤ 8192) = true := decide_eq_true hasz
    clear hg ha hl hdec
    go_wp2_with (first | (refine wpList_load_blk (by rfl) 25 (.tmp 1) rfl (w.heap.size) rfl (.agg C) rfl gC1 Try.underlying25 rfl (by rw [hszC]; exact info_ob) ?_))
    (with_reducible refine (HD.out _).mono ?_)
    rintro e w3d ⟨veD, vpD, rfl, reD, rsD, hb⟩
    have HB3d := Lib.hid (HB1.out.trans (hb.mono HB1.out.size))
    clear hb
    obtain ⟨D, hD⟩ : ∃ C : Array Value, C = (objC (o) veD vpD).toArray := ⟨_, rfl⟩
    have hszD : D.size = 9 := by rw [hD]; rfl
    have honeD : D.all (·.oneCell') = true := by rw [hD]; exact objC_one reD rsD
    rw [← hD]
    have HND := Lib.hid hD
    clear hD
    go_wp2_with (first | (refine wpList_store_blk (by rfl) 25 (.tmp 5) (.tmp 22) rfl w3d.heap.size D rfl rfl (old := _) (heap_alloc_new _ _) (by rw [hszD]; exact info_ob) (by rw [hszD]; rfl) honeD ?_; intro w3 gD huD; have hkD := below_upd ((Below.refl w3d.heap.size w3d).alloc (Nat.le_refl _) _) huD (Nat.le_refl _) (by simp); have HB3 := Lib.hid (HB3d.out.trans (hkD.mono HB3d.out.size)); have gC3 := HGC.out _ HB3.out; have reD := rdRow.below reD hkD; have rsD := rdS.below rsD hkD; clear huD hkD) | (refine wpList_load_blk (by rfl) 25 (.tmp 1) rfl (w.heap.size) rfl (.agg C) rfl gC3 Try.underlying25 rfl (by rw [hszC]; exact info_ob) ?_) | (refine wpList_load_blk (by rfl) 25 (.tmp 5) rfl (w3d.heap.size) rfl (.agg D) rfl gD Try.underlying25 rfl (by rw [hszD]; exact info_ob) ?_))
    have HSO2 := Lib.hid (HSO.out _ HB3.out _ _ reD rsD)
    rw [← HND.out] at HSO2
    (with_reducible refine HSO2.out.mono ?_)
    rintro e w4 ⟨⟨sb, rfl, hsb⟩, hb⟩
    have HB4 := Lib.hid (HB3.out.trans (hb.mono HB3.out.size))
    have gC4 := HGC.out _ HB4.out
    obtain rfl : sb = true := hsb.2 (by trivial)
    clear hsb hb gD gC3 reD rsD
    go_wp2_with (first | (refine wpList_load_blk (by rfl) 25 (.tmp 1) rfl (w.heap.size) rfl (.agg C) rfl gC4 Try.underlying25 rfl (by rw [hszC]; exact info_ob) ?_))
    (with_reducible refine (HGO.out _ HB4.out).mono ?_)
    rintro e w5 ⟨rfl, hb⟩
    have HB5 := Lib.hid (HB4.out.trans (hb.mono HB4.out.size))
    have gC5 := HGC.out _ HB5.out
    clear hb gC4
    go_wp2_with (first | (refine wpList_load_blk (by rfl) 25 (.tmp 1) rfl (w.heap.size) rfl (.agg C) rfl gC5 Try.underlying25 rfl (by rw [hszC]; exact info_ob) ?_))
    (with_reducible refine (objects_any _).mono ?_)
    rintro e w6 ⟨rfl, hb⟩
    have HB6 := Lib.hid (HB5.out.trans (hb.mono HB5.out.size))
    have gC6 := HGC.out _ HB6.out
    clear hb gC5
    go_wp2_with (first | (refine wpList_load_blk (by rfl) 25 (.tmp 1) rfl (w.heap.size) rfl (.agg C) rfl gC6 Try.underlying25 rfl (by rw [hszC]; exact info_ob) ?_))
    go_ret
    exact ⟨rfl, HW0.out.trans (HB6.out.mono HW0.out.size)⟩
  · have h1 : (e == 0) = false := beq_eq_false_iff_ne.2 hez
    have h2 : (e != 0) = true := by rw [bne, h1]; rfl
    obtain rfl : a = noB := by have h := enc_bad (o := o) (by rw [← HA.out]; exact hez); rw [← HA.out] at h; exact h
    have hnb : noB.toList.isEmpty = true := by rw [ByteArray.toList_eq]; rfl
    clear hez
    go_wp2_with (first | (refine wpList_load_blk (by rfl) 25 (.tmp 1) rfl (w.heap.size) rfl (.agg C) rfl gC1 Try.underlying25 rfl (by rw [hszC]; exact info_ob) ?_))
    (with_reducible refine (objects_any _).mono ?_)
    rintro e w2 ⟨rfl, hb⟩
    have HB2 := Lib.hid (HB1.out.trans (hb.mono HB1.out.size))
    have gC2 := HGC.out _ HB2.out
    clear hb gC1
    go_wp2_with (first | (refine wpList_load_blk (by rfl) 25 (.tmp 1) rfl (w.heap.size) rfl (.agg C) rfl gC2 Try.underlying25 rfl (by rw [hszC]; exact info_ob) ?_))
    go_ret
    exact ⟨rfl, HW0.out.trans (HB2.out.mono HW0.out.size)⟩
end Go.Proofs.Ytmjnohblifihmaa
