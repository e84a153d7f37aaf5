/- The walks of the keep's sameRefs, settles, RefsBack and RefsOthers. -/
import Derived.Test.YtnggcldpojebkaaDoorRefs4
namespace Go.Proofs.YtnggcldpojebkaaDoor
open Go.RowKit
set_option linter.unusedVariables false
set_option linter.unusedSimpArgs false

set_option maxRecDepth 100000 in
set_option maxHeartbeats 3200000 in
theorem sameRefs_any (l : List Rf) (hl : l.length ≤ 32) (v u : Value) (w : World) (hr : rdR w v l) (hq : rdR w u l) :
    Calls Tryd.prog 9 #[v, u] w fun e w' => e = .returned (.bool true) ∧ Below w.heap.size w w' := by
  have HR := Lib.hid hr
  have HQ := Lib.hid hq
  obtain ⟨ae, ce, rfl⟩ := rd_form hr
  obtain ⟨af, cf, rfl⟩ := rd_form hq
  clear hr hq
  have hb0 := Lib.hid (Below.refl w.heap.size w)
  go_enter Tryd.func9, Tryd.ntmps9
  go_wp2_with fail
  go_loopw [5] (fun s5 wr => ∃ k : Nat, k ≤ l.length ∧ s5 = .int .i64 (k : Int) ∧ Hid (Below w.heap.size w wr)) (fun s5 _ => l.length - (intOf s5).toNat)
  case atStart => exact ⟨0, Nat.zero_le _, rfl, hb0⟩
  case round =>
    clear hb0
    obtain ⟨k, hk, rfl, HB⟩ := hrel
    by_cases hlt : k < l.length
    · have hki : (k : Int) < (l.length : Int) := by omega
      have hkb : decide ((k : Int) < (l.length : Int)) = true := decide_eq_true hki
      obtain ⟨b, off, hae, hblt, hcell⟩ := rdR_at HR.out (by omega)
      obtain ⟨b2, off2, hae2, hblt2, hcell2⟩ := rdR_at HQ.out (by omega)
      subst hae
      subst hae2
      obtain ⟨x, hx⟩ : ∃ x, x = l.getD k zeroRf := ⟨_, rfl⟩
      have s := hcell k hlt
      have t := hcell2 k hlt
      rw [← hx] at s t
      have s0 := (HB.out.cell (p := ⟨b, off + k * 2, none⟩) hblt).trans s.1
      have s1 := (HB.out.cell (p := ⟨b, off + k * 2 + 1, none⟩) hblt).trans s.2
      have t0 := (HB.out.cell (p := ⟨b2, off2 + k * 2, none⟩) hblt2).trans t.1
      have t1 := (HB.out.cell (p := ⟨b2, off2 + k * 2 + 1, none⟩) hblt2).trans t.2
      clear s t hx hcell hcell2
      go_wp2_with fail
      go_region
      go_wp2_with fail
      go_roundw
      case rel => exact ⟨k + 1, by omega, by first | rfl | go_num, Lib.hid HB.out.drew⟩
      case measure => simp [intOf]; omega
    · obtain rfl : k = l.length := by omega
      have hkb : decide ((l.length : Int) < (l.length : Int)) = false := by simp
      go_wp2_with fail
      go_ret
      exact ⟨rfl, HB.out⟩
def seId : ByteArray := ⟨#[48, 49, 50, 51, 52, 53, 54, 55, 56, 57, 97, 98, 99, 100, 101, 102, 48, 49, 50, 51, 52, 53, 54, 55, 56, 57, 97, 98, 99, 100, 101, 102]⟩
def seNm : ByteArray := ⟨#[97, 47, 98]⟩
theorem goodR_nil : GoodR namedR [] := by
  refine ⟨Nat.zero_le _, List.Pairwise.nil, ?_, ?_⟩ <;> intro f h <;> cases h
theorem named_se : namedR seNm = true := by decide +kernel
theorem set_se : setR namedR [] seNm nilB seId = ([⟨seNm, seId⟩], 0) := by
  rw [setR_eq (old := nilB) goodR_nil (formR_iff.2 ⟨named_se, .inl rfl, .inr rfl⟩) rfl]
  rw [setO_5 (l := []) (name := seNm) (id := seId) rfl (fun e => absurd (congrArg ByteArray.size e) (by decide)) (by decide)]
  rfl
theorem se_good : GoodR namedR [⟨seNm, seId⟩] := by
  have h := (setR_ok (nm := namedR) (l := []) (name := seNm) (old := nilB) (id := seId) (by rw [set_se])).2.2.2.2.1
  rw [set_se] at h
  exact h
theorem get_se : getR [⟨seNm, seId⟩] seNm = seId := by
  have h := (setR_ok (nm := namedR) (l := []) (name := seNm) (old := nilB) (id := seId) (by rw [set_se])).2.2.2.2.2 seNm
  rw [set_se, if_pos rfl] at h
  exact h
set_option maxRecDepth 100000 in
set_option maxHeartbeats 3200000 in
theorem settles_any (w : World) : Calls Tryd.prog 6 #[] w fun e w' => e = .returned (.bool true) ∧ Below w.heap.size w w' := by
  have hcall := setR_any [] ⟨#[97, 47, 98]⟩ ⟨#[]⟩ seId (.slice none 0 0) w (rdR_nil w)
  rw [show setR namedR [] ⟨#[97, 47, 98]⟩ ⟨#[]⟩ seId = ([⟨seNm, seId⟩], 0) from set_se] at hcall
  have HC := Lib.hid hcall
  have HG := Lib.hid (fun w' v' (h : rdR w' v' [⟨seNm, seId⟩]) => getR_any [⟨seNm, seId⟩] ⟨#[97, 47, 98]⟩ v' w' se_good.srt h (by simp))
  rw [show getR [⟨seNm, seId⟩] ⟨#[97, 47, 98]⟩ = seId from get_se] at HG
  have hq : (seId.toList == seId.toList) = true := beq_self_eq_true _
  obtain ⟨sid, hsid⟩ : ∃ x, x = seId := ⟨_, rfl⟩
  have HSE := Lib.hid hsid
  rw [← hsid] at HC HG hq
  clear hcall hsid
  go_enter Tryd.func6, Tryd.ntmps6
  go_wp2_with fail
  rw [show (⟨#[48, 49, 50, 51, 52, 53, 54, 55, 56, 57, 97, 98, 99, 100, 101, 102, 48, 49, 50, 51, 52, 53, 54, 55, 56, 57, 97, 98, 99, 100, 101, 102]⟩ : ByteArray) = sid from HSE.out.symm]
  (with_reducible refine (HC.out).mono ?_)
  rintro e w1 ⟨v1, rfl, hrd, hb⟩
  obtain ⟨a1, p1, rfl⟩ : ∃ ad p, v1 = .slice ad ([Rf.mk seNm sid]).length p := rd_form hrd
  have HR1 := Lib.hid (show rdR w1 (.slice a1 ([Rf.mk seNm sid]).length p1) ([Rf.mk seNm sid]) from hrd)
  have HB1 := Lib.hid (hb)
  clear hb hrd
  have hr11 : rdR w1 (.slice a1 1 p1) [Rf.mk seNm sid] := HR1.out
  go_wp2_with fail
  (with_reducible refine (HG.out w1 (.slice a1 1 p1) hr11).mono ?_)
  rintro e w2 ⟨rfl, hb⟩
  have HB2 := Lib.hid (HB1.out.trans (hb.mono HB1.out.size))
  clear hb
  go_wp2_with fail
  go_ret
  exact ⟨rfl, HB2.out⟩
set_option maxRecDepth 100000 in
set_option maxHeartbeats 3200000 in
theorem refsBack_any (l : List Rf) (name id : ByteArray) (v : Value) (w : World) (hr : rdR w v l) :
    Calls Tryd.prog 3 #[v, .string name, .string id] w fun e w' => e = .returned (.bool true) ∧ Below w.heap.size w w' := by
  have HR := Lib.hid hr
  have HGC := Lib.hid (goodR_any l v w hr)
  obtain ⟨ao, cp, rfl⟩ := rd_form hr
  clear hr
  by_cases hgood : GoodR namedR l
  · rw [goodRB_true hgood] at HGC
    have HGD := Lib.hid hgood
    have HGT := Lib.hid (fun w' (h : Below w.heap.size w w') => getR_any l name _ w' hgood.srt (HR.out.below h) (by have := hgood.len; omega))
    have HS1 := Lib.hid (fun w' (h : Below w.heap.size w w') => setR_any l name (getR l name) id _ w' (HR.out.below h))
    obtain ⟨q, hq⟩ : ∃ q, q = getR l name := ⟨_, rfl⟩
    rw [← hq] at HGT HS1
    have HQ := Lib.hid hq
    obtain ⟨⟨a, en⟩, hs⟩ : ∃ r, r = setR namedR l name q id := ⟨_, rfl⟩
    rw [← hs] at HS1
    have HS := Lib.hid hs
    clear hgood hq hs
    by_cases hen : en = 0
    · subst hen
      have hlaw := refs_back (name := name) (id := id) HGD.out (by rw [← HQ.out, ← HS.out])
      rw [← HQ.out, ← HS.out] at hlaw
      obtain ⟨l1, l2, l3⟩ := hlaw
      have HS2 := Lib.hid (fun w' v' (h : rdR w' v' a) => setR_any a name id q v' w' h)
      rw [l1] at HS2
      have HG2 := Lib.hid (fun w' v' (h : rdR w' v' a) => getR_any a name v' w' l3.srt h (Nat.lt_of_le_of_lt l3.len (by decide)))
      rw [l2] at HG2
      have HGD2 := Lib.hid (fun w' v' (h : rdR w' v' a) => goodR_any a v' w' h)
      rw [goodRB_true l3] at HGD2
      have hqb : (id.toList == id.toList) = true := beq_self_eq_true _
      clear l1 l2 l3
      go_enter Tryd.func3, Tryd.ntmps3
      go_wp2_with fail
      (with_reducible refine (HGC.out).mono ?_)
      rintro e w1 ⟨rfl, hb⟩
      have HB1 := Lib.hid (hb)
      clear hb
      go_wp2_with fail
      (with_reducible refine (settles_any w1).mono ?_)
      rintro e w2 ⟨rfl, hb⟩
      have HB2 := Lib.hid (HB1.out.trans (hb.mono HB1.out.size))
      clear hb
      go_wp2_with fail
      (with_reducible refine (HGT.out w2 HB2.out).mono ?_)
      rintro e w3 ⟨rfl, hb⟩
      have HB3 := Lib.hid (HB2.out.trans (hb.mono HB2.out.size))
      clear hb
      go_wp2_with fail
      (with_reducible refine (HS1.out w3 HB3.out).mono ?_)
      rintro e w4 ⟨v4, rfl, hrd, hb⟩
      obtain ⟨a4, p4, rfl⟩ : ∃ ad p, v4 = .slice ad (a).length p := rd_form hrd
      have HR4 := Lib.hid (show rdR w4 (.slice a4 (a).length p4) (a) from hrd)
      have HB4 := Lib.hid (HB3.out.trans (hb.mono HB3.out.size))
      clear hb hrd
      go_wp2_with fail
      have HB44 := HB4
      (with_reducible refine (HS2.out w4 _ HR4.out).mono ?_)
      rintro e w5 ⟨v5, rfl, hrd, hb⟩
      obtain ⟨a5, p5, rfl⟩ : ∃ ad p, v5 = .slice ad l.length p := rd_form hrd
      have HR5 := Lib.hid (show rdR w5 (.slice a5 l.length p5) l from hrd)
      have HB5 := Lib.hid (HB4.out.trans (hb.mono HB4.out.size))
      have H45 := Lib.hid hb
      clear hb hrd
      go_wp2_with fail
      (with_reducible refine (sameRefs_any l HGD.out.len _ _ w5 HR5.out (HR.out.below HB5.out)).mono ?_)
      rintro e w6 ⟨rfl, hb⟩
      have HB6 := Lib.hid (HB5.out.trans (hb.mono HB5.out.size))
      have HC6 := Lib.hid (H45.out.trans (hb.mono H45.out.size))
      clear hb
      go_wp2_with fail
      (with_reducible refine (HG2.out w6 _ (HR4.out.below HC6.out)).mono ?_)
      rintro e w7 ⟨rfl, hb⟩
      have HB7 := Lib.hid (HB6.out.trans (hb.mono HB6.out.size))
      have HC7 := Lib.hid (HC6.out.trans (hb.mono HC6.out.size))
      clear hb
      go_wp2_with fail
      (with_reducible refine (HGD2.out w7 _ (HR4.out.below HC7.out)).mono ?_)
      rintro e w8 ⟨rfl, hb⟩
      have HB8 := Lib.hid (HB7.out.trans (hb.mono HB7.out.size))
      clear hb
      go_wp2_with fail
      go_ret
      exact ⟨rfl, HB8.out⟩
    · have hnil : a = [] := by
        have h := setR_bad (nm := namedR) (l := l) (name := name) (old := q) (id := id) (by rw [← HS.out]; exact hen)
        rw [← HS.out] at h
        exact h
      subst hnil
      have he1 : (en == 0) = false := beq_eq_false_iff_ne.2 hen
      have he2 : (en != 0) = true := by rw [bne, he1]; rfl
      clear hen
      go_enter Tryd.func3, Tryd.ntmps3
      go_wp2_with fail
      (with_reducible refine (HGC.out).mono ?_)
      rintro e w1 ⟨rfl, hb⟩
      have HB1 := Lib.hid (hb)
      clear hb
      go_wp2_with fail
      (with_reducible refine (settles_any w1).mono ?_)
      rintro e w2 ⟨rfl, hb⟩
      have HB2 := Lib.hid (HB1.out.trans (hb.mono HB1.out.size))
      clear hb
      go_wp2_with fail
      (with_reducible refine (HGT.out w2 HB2.out).mono ?_)
      rintro e w3 ⟨rfl, hb⟩
      have HB3 := Lib.hid (HB2.out.trans (hb.mono HB2.out.size))
      clear hb
      go_wp2_with fail
      (with_reducible refine (HS1.out w3 HB3.out).mono ?_)
      rintro e w4 ⟨v4, rfl, hrd, hb⟩
      obtain ⟨a4, p4, rfl⟩ : ∃ ad p, v4 = .slice ad 0 p := rd_form hrd
      have HB4 := Lib.hid (HB3.out.trans (hb.mono HB3.out.size))
      clear hb hrd
      go_wp2_with fail
      go_ret
      exact ⟨rfl, HB4.out⟩
  · rw [goodRB_false hgood] at HGC
    clear hgood
    go_enter Tryd.func3, Tryd.ntmps3
    go_wp2_with fail
    (with_reducible refine (HGC.out).mono ?_)
    rintro e w1 ⟨rfl, hb⟩
    have HB1 := Lib.hid (hb)
    clear hb
    go_wp2_with fail
    (with_reducible refine (settles_any w1).mono ?_)
    rintro e w2 ⟨rfl, hb⟩
    have HB2 := Lib.hid (HB1.out.trans (hb.mono HB1.out.size))
    clear hb
    go_wp2_with fail
    go_ret
    exact ⟨rfl, HB2.out⟩
set_option maxRecDepth 100000 in
set_option maxHeartbeats 3200000 in
theorem refsOthers_any (l : List Rf) (name old id other : ByteArray) (v : Value) (w : World) (hr : rdR w v l) :
    Calls Tryd.prog 4 #[v, .string name, .string old, .string id, .string other] w fun e w' => e = .returned (.bool true) ∧ Below w.heap.size w w' := by
  have HR := Lib.hid hr
  have HS1 := Lib.hid (setR_any l name old id v w hr)
  obtain ⟨ao, cp, rfl⟩ := rd_form hr
  clear hr
  obtain ⟨⟨a, en⟩, hs⟩ : ∃ r, r = setR namedR l name old id := ⟨_, rfl⟩
  rw [← hs] at HS1
  have HS := Lib.hid hs
  clear hs
  by_cases hen : en = 0
  · subst hen
    have hok := setR_ok (nm := namedR) (l := l) (name := name) (old := old) (id := id) (by rw [← HS.out])
    have hlaw := refs_others (nm := namedR) (l := l) (name := name) (old := old) (id := id) (by rw [← HS.out])
    rw [← HS.out] at hlaw
    obtain ⟨l1, l2, l3⟩ := hlaw
    have HL1 := Lib.hid (l1 other)
    have HGT := Lib.hid (fun w' (h : Below w.heap.size w w') => getR_any l other _ w' hok.1.srt (HR.out.below h) (by have := hok.1.len; omega))
    have HS2 := Lib.hid (fun w' v' (h : rdR w' v' a) => setR_any a name old id v' w' h)
    have HG2 := Lib.hid (fun w' v' (h : rdR w' v' a) => getR_any a other v' w' l3.srt h (Nat.lt_of_le_of_lt l3.len (by decide)))
    have HGD2 := Lib.hid (fun w' v' (h : rdR w' v' a) => goodR_any a v' w' h)
    rw [goodRB_true l3] at HGD2
    obtain ⟨⟨b, fn⟩, hs2⟩ : ∃ r, r = setR namedR a name old id := ⟨_, rfl⟩
    rw [← hs2] at HS2 l2
    have HF := Lib.hid (show (fn == 0) = (old.toList == id.toList) by
      have l2' : fn = 0 ↔ old = id := l2
      by_cases e : old = id
      · rw [l2'.2 e, e]; simp
      · rw [beq_eq_false_iff_ne.2 (fun h => e (l2'.1 h)), beq_eq_false_iff_ne.2 (fun h => e (toList_inj h))])
    obtain ⟨c, hc⟩ : ∃ c, c = (old.toList == id.toList) := ⟨_, rfl⟩
    rw [← hc] at HF
    have hc1 := hc.symm
    have hf1 := HF.out
    have hcc : (c == c) = true := by cases c <;> rfl
    clear l1 l2 l3 hok hs2 hc
    by_cases hno : name = other
    · have hnb : (name.toList == other.toList) = true := by rw [hno]; exact beq_self_eq_true _
      clear hno
      go_enter Tryd.func4, Tryd.ntmps4
      go_wp2_with fail
      (with_reducible refine (HS1.out).mono ?_)
      rintro e w1 ⟨v1, rfl, hrd, hb⟩
      obtain ⟨a1, p1, rfl⟩ : ∃ ad p, v1 = .slice ad (a).length p := rd_form hrd
      have HR1 := Lib.hid (show rdR w1 (.slice a1 (a).length p1) (a) from hrd)
      have HB1 := Lib.hid (hb)
      clear hb hrd
      have HC1 := Lib.hid (Below.refl w1.heap.size w1)
      go_wp2_with fail
      (with_reducible refine (settles_any w1).mono ?_)
      rintro e w2 ⟨rfl, hb⟩
      have HB2 := Lib.hid (HB1.out.trans (hb.mono HB1.out.size))
      have HC2 := Lib.hid (HC1.out.trans (hb.mono HC1.out.size))
      clear hb
      go_wp2_with fail
      (with_reducible refine (HS2.out w2 _ (HR1.out.below HC2.out)).mono ?_)
      rintro e w3 ⟨v3, rfl, hrd, hb⟩
      have HB3 := Lib.hid (HB2.out.trans (hb.mono HB2.out.size))
      have HC3 := Lib.hid (HC2.out.trans (hb.mono HC2.out.size))
      clear hb hrd
      go_wp2_with fail
      (with_reducible refine (HGD2.out w3 _ (HR1.out.below HC3.out)).mono ?_)
      rintro e w8 ⟨rfl, hb⟩
      have HB8 := Lib.hid (HB3.out.trans (hb.mono HB3.out.size))
      have HC8 := Lib.hid (HC3.out.trans (hb.mono HC3.out.size))
      clear hb
      go_wp2_with fail
      go_ret
      exact ⟨rfl, HB8.out⟩
    · have hnb : (name.toList == other.toList) = false := beq_eq_false_iff_ne.2 (fun e => hno (toList_inj e))
      have hget := HL1.out.resolve_left hno
      obtain ⟨q, hq⟩ : ∃ q, q = getR l other := ⟨_, rfl⟩
      rw [hget, ← hq] at HG2
      rw [← hq] at HGT
      have hqq : (q.toList == q.toList) = true := beq_self_eq_true _
      clear hno hget hq
      go_enter Tryd.func4, Tryd.ntmps4
      go_wp2_with fail
      (with_reducible refine (HS1.out).mono ?_)
      rintro e w1 ⟨v1, rfl, hrd, hb⟩
      obtain ⟨a1, p1, rfl⟩ : ∃ ad p, v1 = .slice ad (a).length p := rd_form hrd
      have HR1 := Lib.hid (show rdR w1 (.slice a1 (a).length p1) (a) from hrd)
      have HB1 := Lib.hid (hb)
      clear hb hrd
      have HC1 := Lib.hid (Below.refl w1.heap.size w1)
      go_wp2_with fail
      (with_reducible refine (settles_any w1).mono ?_)
      rintro e w2 ⟨rfl, hb⟩
      have HB2 := Lib.hid (HB1.out.trans (hb.mono HB1.out.size))
      have HC2 := Lib.hid (HC1.out.trans (hb.mono HC1.out.size))
      clear hb
      go_wp2_with fail
      (with_reducible refine (HS2.out w2 _ (HR1.out.below HC2.out)).mono ?_)
      rintro e w3 ⟨v3, rfl, hrd, hb⟩
      have HB3 := Lib.hid (HB2.out.trans (hb.mono HB2.out.size))
      have HC3 := Lib.hid (HC2.out.trans (hb.mono HC2.out.size))
      clear hb hrd
      go_wp2_with fail
      (with_reducible refine (HG2.out w3 _ (HR1.out.below HC3.out)).mono ?_)
      rintro e w4 ⟨rfl, hb⟩
      have HB4 := Lib.hid (HB3.out.trans (hb.mono HB3.out.size))
      have HC4 := Lib.hid (HC3.out.trans (hb.mono HC3.out.size))
      clear hb
      go_wp2_with fail
      (with_reducible refine (HGT.out w4 HB4.out).mono ?_)
      rintro e w5 ⟨rfl, hb⟩
      have HB5 := Lib.hid (HB4.out.trans (hb.mono HB4.out.size))
      have HC5 := Lib.hid (HC4.out.trans (hb.mono HC4.out.size))
      clear hb
      go_wp2_with fail
      (with_reducible refine (HGD2.out w5 _ (HR1.out.below HC5.out)).mono ?_)
      rintro e w8 ⟨rfl, hb⟩
      have HB8 := Lib.hid (HB5.out.trans (hb.mono HB5.out.size))
      have HC8 := Lib.hid (HC5.out.trans (hb.mono HC5.out.size))
      clear hb
      go_wp2_with fail
      go_ret
      exact ⟨rfl, HB8.out⟩
  · have he1 : (en == 0) = false := beq_eq_false_iff_ne.2 hen
    have he2 : (en != 0) = true := by rw [bne, he1]; rfl
    clear hen
    go_enter Tryd.func4, Tryd.ntmps4
    go_wp2_with fail
    (with_reducible refine (HS1.out).mono ?_)
    rintro e w1 ⟨v1, rfl, hrd, hb⟩
    obtain ⟨a1, p1, rfl⟩ : ∃ ad p, v1 = .slice ad (a).length p := rd_form hrd
    have HR1 := Lib.hid (show rdR w1 (.slice a1 (a).length p1) (a) from hrd)
    have HB1 := Lib.hid (hb)
    clear hb hrd
    go_wp2_with fail
    (with_reducible refine (settles_any w1).mono ?_)
    rintro e w2 ⟨rfl, hb⟩
    have HB2 := Lib.hid (HB1.out.trans (hb.mono HB1.out.size))
    clear hb
    go_wp2_with fail
    go_ret
    exact ⟨rfl, HB2.out⟩
end Go.Proofs.YtnggcldpojebkaaDoor
