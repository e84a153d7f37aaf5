/- The walk of ObjectOnly. -/
import Derived.Test.YtmjnohblifihmaaObjectBack
namespace Go.Proofs.Ytmjnohblifihmaa
open Go.RowKit
set_option linter.unusedVariables false
set_option linter.unusedSimpArgs false

set_option maxRecDepth 100000 in
set_option maxHeartbeats 3200000 in
theorem objectOnly_walk (s : ByteArray) (hs : s.size ≤ 140737488351232) (w : World) :
    Calls Try.prog 4 #[.string s] w fun e w' => e = .returned (.bool true) ∧ Below w.heap.size w w' := by
  have HW0 := Lib.hid (Below.refl w.heap.size w)
  have HB0 := Lib.hid (Below.refl w.heap.size w)
  have HD := Lib.hid (fun w' => decode_any s w' (by omega))
  obtain ⟨⟨o, e⟩, hoe⟩ : ∃ q, q = decodeF s := ⟨_, rfl⟩
  rw [← hoe] at HD
  have HOE := Lib.hid hoe.symm
  clear hoe
  go_enter Try.func4, Try.ntmps4
  go_wp2_with fail
  (with_reducible refine (HD.out _).mono ?_)
  rintro e w1d ⟨veD, vpD, rfl, reD, rsD, hb⟩
  have HB1d := Lib.hid (HB0.out.trans (hb.mono HB0.out.size))
  clear hb
  obtain ⟨D, hD⟩ : ∃ C : Array Value, C = (objC (o) veD vpD).toArray := ⟨_, rfl⟩
  have hszD : D.size = 9 := by rw [hD]; rfl
  have honeD : D.all (·.oneCell') = true := by rw [hD]; exact objC_one reD rsD
  rw [← hD]
  have HND := Lib.hid hD
  clear hD
  by_cases hez : e = 0
  · subst hez
    obtain ⟨hg, henc, hsz⟩ := decode_ok HOE.out
    have hef : encodeF o = (s, 0) := by
      rw [encodeF_3 hg (by rw [henc, toList_length]; omega), henc]
    have HEN := Lib.hid (fun w' ve vp (he : rdE w' ve o.ents) (hp : rdS w' vp o.pars) => encode_any o ve vp w' he hp)
    rw [hef] at HEN
    have hoo : (s.toList == s.toList) = true := beq_yes _
    clear hg henc hsz hef
    go_wp2_with (first | (refine wpList_store_blk (by rfl) 25 (.tmp 3) (.tmp 10) rfl w1d.heap.size D rfl rfl (old := _) (heap_alloc_new _ _) (by rw [hszD]; exact info_ob) (by rw [hszD]; rfl) honeD ?_; intro w1 gD huD; have hkD := below_upd ((Below.refl w1d.heap.size w1d).alloc (Nat.le_refl _) _) huD (Nat.le_refl _) (by simp); have HB1 := Lib.hid (HB1d.out.trans (hkD.mono HB1d.out.size)); have reD := rdRow.below reD hkD; have rsD := rdS.below rsD hkD; clear huD hkD) | (refine wpList_load_blk (by rfl) 25 (.tmp 3) rfl (w1d.heap.size) rfl (.agg D) rfl gD Try.underlying25 rfl (by rw [hszD]; exact info_ob) ?_))
    have HE2 := Lib.hid (HEN.out _ _ _ reD rsD)
    rw [← HND.out] at HE2
    (with_reducible refine (HE2.out).mono ?_)
    rintro e w2 ⟨rfl, hb⟩
    have HB2 := Lib.hid (HB1.out.trans (hb.mono HB1.out.size))
    clear hb
    go_wp2_with fail
    (with_reducible refine (objects_any _).mono ?_)
    rintro e w3 ⟨rfl, hb⟩
    have HB3 := Lib.hid (HB2.out.trans (hb.mono HB2.out.size))
    clear hb
    go_wp2_with fail
    go_ret
    exact ⟨rfl, HW0.out.trans (HB3.out.mono HW0.out.size)⟩
  · have h1 : (e == 0) = false := beq_eq_false_iff_ne.2 hez
    have h2 : (e != 0) = true := by rw [bne, h1]; rfl
    have hz : o = zeroO := by have h := decode_bad (s := s) (by rw [HOE.out]; exact hez); rw [HOE.out] at h; exact h
    have HZ := Lib.hid hz
    clear hz hez
    go_wp2_with (first | (refine wpList_store_blk (by rfl) 25 (.tmp 3) (.tmp 10) rfl w1d.heap.size D rfl rfl (old := _) (heap_alloc_new _ _) (by rw [hszD]; exact info_ob) (by rw [hszD]; rfl) honeD ?_; intro w1 gD huD; have hkD := below_upd ((Below.refl w1d.heap.size w1d).alloc (Nat.le_refl _) _) huD (Nat.le_refl _) (by simp); have HB1 := Lib.hid (HB1d.out.trans (hkD.mono HB1d.out.size)); have reD := rdRow.below reD hkD; have rsD := rdS.below rsD hkD; clear huD hkD) | (refine wpList_load_blk (by rfl) 25 (.tmp 3) rfl (w1d.heap.size) rfl (.agg D) rfl gD Try.underlying25 rfl (by rw [hszD]; exact info_ob) ?_))
    have HS := Lib.hid (sameO_any o zeroO _ _ (.slice none 0 0) (.slice none 0 0) _ reD rsD (rdE_nil _) (rdS_nil _))
    rw [← HND.out] at HS
    refine HS.out.mono ?_
    rintro e w2 ⟨⟨sb, rfl, hsb⟩, hb⟩
    have HB2 := Lib.hid (HB1.out.trans (hb.mono HB1.out.size))
    obtain rfl : sb = true := hsb.2 HZ.out
    clear hsb hb
    go_wp2_with fail
    (with_reducible refine (objects_any _).mono ?_)
    rintro e w3 ⟨rfl, hb⟩
    have HB3 := Lib.hid (HB2.out.trans (hb.mono HB2.out.size))
    clear hb
    go_wp2_with fail
    go_ret
    exact ⟨rfl, HW0.out.trans (HB3.out.mono HW0.out.size)⟩
end Go.Proofs.Ytmjnohblifihmaa
