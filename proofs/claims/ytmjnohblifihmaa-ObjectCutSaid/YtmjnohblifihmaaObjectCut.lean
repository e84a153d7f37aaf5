/- The walk of ObjectCut. -/
import Derived.Test.YtmjnohblifihmaaObjectBack
import Derived.Test.YtmjnohblifihmaaWireCut
namespace Go.Proofs.Ytmjnohblifihmaa
open Go.RowKit
set_option linter.unusedVariables false
set_option linter.unusedSimpArgs false

theorem encO_pos (o : Obj) : 0 < (encO o).length := by
  have := enc_pos o.kind.toNat
  unfold encO
  rw [List.length_append]; omega
set_option maxRecDepth 100000 in
set_option maxHeartbeats 3200000 in
theorem objectCut_walk {w : World} (o : Obj) (ve vp : Value) (he : rdE w ve o.ents) (hp : rdS w vp o.pars) (k : Int) (hk : -9223372036854775808 ≤ k ∧ k ≤ 9223372036854775807) :
    Calls Try.prog 5 #[.agg (objC o ve vp).toArray, .int .i64 k] w fun e w' => e = .returned (.bool true) ∧ Below w.heap.size w w' := by
  obtain ⟨C, hC⟩ : ∃ C : Array Value, C = (objC o ve vp).toArray := ⟨_, rfl⟩
  have hszC : C.size = 9 := by rw [hC]; rfl
  obtain ⟨W, hW⟩ : ∃ W, w.alloc (.cells C 25) = W := ⟨_, rfl⟩
  have hb1 : Below w.heap.size w W := by rw [← hW]; exact (Below.refl _ _).alloc (Nat.le_refl _) _
  have gC0 : W.heap[w.heap.size]? = some (.cells C 25 (0, 0)) := by rw [← hW]; exact heap_alloc_new _ _
  have HGC := Lib.hid (fun wr (h : Below W.heap.size W wr) => blk_below gC0 h)
  have HEO := Lib.hid (fun w' (hb : Below W.heap.size W w') => encode_any o ve vp w' ((rdRow.below he hb1).below hb) ((hp.below hb1).below hb))
  have HW0 := Lib.hid hb1
  have HB0 := Lib.hid (Below.refl W.heap.size W)
  rw [← hC] at *
  obtain ⟨⟨a, e⟩, hae⟩ : ∃ q, q = encodeF o := ⟨_, rfl⟩
  rw [← hae] at HEO
  have HA := Lib.hid hae
  clear hC he hp hb1 hae
  go_enter Try.func5, Try.ntmps5
  go_wp2_with (first | (refine wpList_load_blk (by rfl) 25 (.tmp 2) rfl (w.heap.size) rfl (.agg C) rfl gC0 Try.underlying25 rfl (by rw [hszC]; exact info_ob) ?_))
  (with_reducible refine (HEO.out _ HB0.out).mono ?_)
  rintro e w1 ⟨rfl, hb⟩
  have HB1 := Lib.hid (HB0.out.trans (hb.mono HB0.out.size))
  have gC1 := HGC.out _ HB1.out
  clear hb gC0
  clear hW
  by_cases hez : e = 0
  · subst hez
    obtain ⟨hg, ha, hl⟩ := enc_ok (o := o) (by rw [← HA.out])
    rw [← HA.out] at ha
    simp only at ha
    have haL : a.data.toList = encO o := by rw [ha, toList_mk]
    have hasz : a.size ≤ 8192 := by rw [← toList_length, haL]; exact hl
    have hpos : 0 < a.size := by rw [← toList_length, haL]; exact encO_pos o
    have hne : a.toList.isEmpty = false := isEmpty_false _ hpos
    have hpk := pickN_range k a.size (by omega)
    obtain ⟨j, hj⟩ : ∃ j : Nat, (j : Int) = pickN k a.size := ⟨(pickN k a.size).toNat, by omega⟩
    have hja : j < a.size := by omega
    have hji : (j : Int) ≤ (a.size : Int) := by omega
    have hj0 : (0 : Int) ≤ (j : Int) := by omega
    obtain ⟨t, ht⟩ : ∃ t, a.extract 0 j = t := ⟨_, rfl⟩
    obtain ⟨u, hu⟩ : ∃ u, a ++ (⟨#[120]⟩ : ByteArray) = u := ⟨_, rfl⟩
    have htsz : t.size ≤ 8192 := by rw [← ht, ByteArray.size_extract]; omega
    have husz : u.size ≤ 8193 := by rw [← hu, ByteArray.size_append]; show a.size + 1 ≤ 8193; omega
    have HDT := Lib.hid (fun w' => decode_any t w' (by omega))
    have HDU := Lib.hid (fun w' => decode_any u w' (by omega))
    have hbt : (decodeF t).2 ≠ 0 := by
      intro h0
      have hm := decode_less (o := o) (p := (decodeF t).1) (t := t) (m := (encO o).drop j) hg (by rw [← h0]) (by rw [← ht, toList_take, haL, List.take_append_drop])
      have := congrArg List.length hm
      rw [List.length_drop, ← haL, toList_length] at this
      simp at this; omega
    have hbu : (decodeF u).2 ≠ 0 := by
      intro h0
      have hm := decode_more (o := o) (p := (decodeF u).1) (s := u) (m := [120]) hg (by rw [← h0]) (by rw [← hu, ByteArray.data_append, Array.toList_append, haL])
      cases hm
    have HPK := Lib.hid (fun w' => pick_any k a.size w' (by omega) (by omega))
    rw [← hj] at HPK
    obtain ⟨⟨o1, e1⟩, ho1⟩ : ∃ q, q = decodeF t := ⟨_, rfl⟩
    obtain ⟨⟨o2, e2⟩, ho2⟩ : ∃ q, q = decodeF u := ⟨_, rfl⟩
    rw [← ho1] at HDT hbt
    rw [← ho2] at HDU hbu
    have b1 : (e1 == 0) = false := beq_eq_false_iff_ne.2 hbt
    have b1n : (e1 != 0) = true := by rw [bne, b1]; rfl
    have b2 : (e2 == 0) = false := beq_eq_false_iff_ne.2 hbu
    have b2n : (e2 != 0) = true := by rw [bne, b2]; rfl
    have hua : a.size + 1 ≤ 9223372036854775807 := by omega
    clear hg ha hl haL hpos hpk hj hbt hbu ho1 ho2 htsz husz
    go_wp2_with (first | (refine wpList_load_blk (by rfl) 25 (.tmp 2) rfl (w.heap.size) rfl (.agg C) rfl gC1 Try.underlying25 rfl (by rw [hszC]; exact info_ob) ?_))
    (with_reducible refine (objects_any _).mono ?_)
    rintro e w2 ⟨rfl, hb⟩
    have HB2 := Lib.hid (HB1.out.trans (hb.mono HB1.out.size))
    have gC2 := HGC.out _ HB2.out
    clear hb gC1
    go_wp2_with (first | (refine wpList_load_blk (by rfl) 25 (.tmp 2) rfl (w.heap.size) rfl (.agg C) rfl gC2 Try.underlying25 rfl (by rw [hszC]; exact info_ob) ?_))
    (with_reducible refine (HPK.out _).mono ?_)
    rintro e w0 ⟨rfl, rfl⟩
    go_wp2_with (first | (refine wpList_load_blk (by rfl) 25 (.tmp 2) rfl (w.heap.size) rfl (.agg C) rfl gC2 Try.underlying25 rfl (by rw [hszC]; exact info_ob) ?_))
    (with_reducible refine (HDT.out _).mono ?_)
    rintro e w3d ⟨veD, vpD, rfl, reD, rsD, hb⟩
    have HB3d := Lib.hid (HB2.out.trans (hb.mono HB2.out.size))
    clear hb
    obtain ⟨D, hD⟩ : ∃ C : Array Value, C = (objC (o1) veD vpD).toArray := ⟨_, rfl⟩
    have hszD : D.size = 9 := by rw [hD]; rfl
    have honeD : D.all (·.oneCell') = true := by rw [hD]; exact objC_one reD rsD
    rw [← hD]
    have HND := Lib.hid hD
    clear hD
    go_wp2_with (first | (refine wpList_store_blk (by rfl) 25 (.tmp 7) (.tmp 39) rfl w3d.heap.size D rfl rfl (old := _) (heap_alloc_new _ _) (by rw [hszD]; exact info_ob) (by rw [hszD]; rfl) honeD ?_; intro w3 gD huD; have hkD := below_upd ((Below.refl w3d.heap.size w3d).alloc (Nat.le_refl _) _) huD (Nat.le_refl _) (by simp); have HB3 := Lib.hid (HB3d.out.trans (hkD.mono HB3d.out.size)); have gC3 := HGC.out _ HB3.out; have reD := rdRow.below reD hkD; have rsD := rdS.below rsD hkD; clear huD hkD) | (refine wpList_load_blk (by rfl) 25 (.tmp 2) rfl (w.heap.size) rfl (.agg C) rfl gC3 Try.underlying25 rfl (by rw [hszC]; exact info_ob) ?_))
    (with_reducible refine (HDU.out _).mono ?_)
    rintro e w4d ⟨veE, vpE, rfl, reE, rsE, hb⟩
    have HB4d := Lib.hid (HB3.out.trans (hb.mono HB3.out.size))
    clear hb
    obtain ⟨E, hE⟩ : ∃ C : Array Value, C = (objC (o2) veE vpE).toArray := ⟨_, rfl⟩
    have hszE : E.size = 9 := by rw [hE]; rfl
    have honeE : E.all (·.oneCell') = true := by rw [hE]; exact objC_one reE rsE
    rw [← hE]
    have HNE := Lib.hid hE
    clear hE
    go_wp2_with (first | (refine wpList_store_blk (by rfl) 25 (.tmp 9) (.tmp 45) rfl w4d.heap.size E rfl rfl (old := _) (heap_alloc_new _ _) (by rw [hszE]; exact info_ob) (by rw [hszE]; rfl) honeE ?_; intro w4 gE huE; have hkE := below_upd ((Below.refl w4d.heap.size w4d).alloc (Nat.le_refl _) _) huE (Nat.le_refl _) (by simp); have HB4 := Lib.hid (HB4d.out.trans (hkE.mono HB4d.out.size)); have gC4 := HGC.out _ HB4.out; have reE := rdRow.below reE hkE; have rsE := rdS.below rsE hkE; clear huE hkE) | (refine wpList_load_blk (by rfl) 25 (.tmp 2) rfl (w.heap.size) rfl (.agg C) rfl gC4 Try.underlying25 rfl (by rw [hszC]; exact info_ob) ?_))
    (with_reducible refine (objects_any _).mono ?_)
    rintro e w5 ⟨rfl, hb⟩
    have HB5 := Lib.hid (HB4.out.trans (hb.mono HB4.out.size))
    have gC5 := HGC.out _ HB5.out
    clear hb gC4
    go_wp2_with (first | (refine wpList_load_blk (by rfl) 25 (.tmp 2) rfl (w.heap.size) rfl (.agg C) rfl gC5 Try.underlying25 rfl (by rw [hszC]; exact info_ob) ?_))
    go_ret
    exact ⟨rfl, HW0.out.trans (HB5.out.mono HW0.out.size)⟩
  · have h1 : (e == 0) = false := beq_eq_false_iff_ne.2 hez
    have h2 : (e != 0) = true := by rw [bne, h1]; rfl
    clear hez
    go_wp2_with (first | (refine wpList_load_blk (by rfl) 25 (.tmp 2) rfl (w.heap.size) rfl (.agg C) rfl gC1 Try.underlying25 rfl (by rw [hszC]; exact info_ob) ?_))
    (with_reducible refine (objects_any _).mono ?_)
    rintro e w2 ⟨rfl, hb⟩
    have HB2 := Lib.hid (HB1.out.trans (hb.mono HB1.out.size))
    have gC2 := HGC.out _ HB2.out
    clear hb gC1
    go_wp2_with (first | (refine wpList_load_blk (by rfl) 25 (.tmp 2) rfl (w.heap.size) rfl (.agg C) rfl gC2 Try.underlying25 rfl (by rw [hszC]; exact info_ob) ?_))
    go_ret
    exact ⟨rfl, HW0.out.trans (HB2.out.mono HW0.out.size)⟩
end Go.Proofs.Ytmjnohblifihmaa
