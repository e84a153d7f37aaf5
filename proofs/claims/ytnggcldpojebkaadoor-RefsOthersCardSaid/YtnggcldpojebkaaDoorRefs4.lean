/- slices.Clone at refs; package refs' Set. -/
import Derived.Test.YtnggcldpojebkaaDoorRefs3
import Derived.Test.YtnggcldpojebkaaDoorOwn
namespace Go.Proofs.YtnggcldpojebkaaDoor
open Go.RowKit
set_option linter.unusedVariables false
set_option linter.unusedSimpArgs false

set_option maxRecDepth 100000 in
set_option maxHeartbeats 3200000 in
theorem cloneR_any (l : List Rf) (v : Value) (w : World) (hr : rdR w v l) (hl : l.length * 32 ≤ 140737488355328) :
    Calls Tryd.prog 12 #[v] w fun e w' => ∃ v', e = .returned v' ∧ w'.ownsRow w.heap.size 33 2 v' l.length (rvs l) ∧ Below w.heap.size w w' := by
  have q22 : ∀ (w : World) (a : Option Addr) (n c n' c' : Nat), (binOp .eql 22 (.slice a n c) (.slice none n' c')).run Tryd.prog w = .ok (.bool a.isNone) w := fun w a n c n' c' => Lib.run_eql_slice_nil w _ _ a n c n' c' Tryd.underlying22
  obtain ⟨ao, cap, rfl⟩ := rd_form hr
  cases ao with
  | none =>
    have h0 : l.length = 0 := by
      obtain ⟨_, ao', cap', hv, hle, _, hz, _⟩ := hr
      simp only [Value.slice.injEq, true_and] at hv
      obtain ⟨rfl, rfl⟩ := hv
      have := hz rfl
      omega
    have he : l = [] := List.eq_nil_of_length_eq_zero h0
    subst he
    clear hr
    go_enter Tryd.func12, Tryd.ntmps12
    go_wp2_with fail
    go_ret
    exact ⟨_, rfl, World.ownsRow_nil _ _ _ _, Below.refl _ _⟩
  | some a =>
    have HR := Lib.hid hr
    have HLL := Lib.hid hl
    clear hr hl
    go_enter Tryd.func12, Tryd.ntmps12
    go_wp2_with (first | (at_builtin; refine wpList_append_rd rfl (.tmp 5) (.tmp 6) 22 rfl rf_info Tryd.underlying22 rfl (by decide) (by decide) (w0 := w) (B := w.heap.size) (World.ownsRow_made w #[] 0 (Nat.le_refl _) (Nat.zero_le _) (by simp)) ((Below.refl _ w).alloc (Nat.le_refl _) _) (Nat.le_refl _) (by simp) (HR.out.below ((Below.refl _ w).alloc (Nat.le_refl _) _)) (rvs_one l) (by rw [Nat.zero_add]; exact HLL.out) rfl rfl ?_; intro v' w' ho hb))
    have HO := Lib.hid ho
    have HB := Lib.hid hb
    clear ho hb
    go_ret
    exact ⟨_, rfl, by have := HO.out; simpa using this, HB.out⟩

theorem rvs_set {l : List Rf} {k : Nat} {f : Rf} (hk : l[k]? = some f) (g : Rf) (hn : g.name = f.name) : (rvs l).set (k * 2 + 1) (.string g.id) = rvs (l.take k ++ g :: l.drop (k + 1)) := by
  rw [← set_parts l k g (List.getElem?_eq_some_iff.1 hk).1]
  induction l generalizing k with
  | nil => simp at hk
  | cons x l ih =>
    cases k with
    | zero =>
      have : x = f := by simpa using hk
      subst this
      show Value.string x.name :: Value.string g.id :: rvs l = Value.string g.name :: Value.string g.id :: rvs l
      rw [hn]
    | succ k =>
      have := ih (k := k) (by simpa using hk)
      rw [show (k + 1) * 2 + 1 = k * 2 + 1 + 1 + 1 by omega]
      show Value.string x.name :: Value.string x.id :: ((rvs l).set (k * 2 + 1) _) = _
      rw [this]
      rfl
theorem own_cellsR {w : World} {base : Nat} {l : List Rf} {g cap k : Nat} {f : Rf} (h : w.ownsRow base 33 2 (.slice (some ⟨g, 0, none⟩) l.length cap) l.length (rvs l)) (hk : l[k]? = some f) :
    w.cell? ⟨g, k * 2, none⟩ = some (.string f.name) ∧ w.cell? ⟨g, k * 2 + 1, none⟩ = some (.string f.id) ∧ (∀ i, w.frozen? ⟨g, i, none⟩ = false) := by
  have hl := (List.getElem?_eq_some_iff.1 hk).1
  have hc := rvs_get l k hl
  rw [List.getD, hk] at hc
  obtain ⟨h1, ⟨h2, _⟩ | ⟨g', cap', cur, hv, hbg, hg, hn, hm, hs, ht⟩⟩ := h
  · cases h2
  · simp only [Value.slice.injEq, Option.some.injEq, Addr.mk.injEq, and_true, true_and] at hv
    obtain ⟨rfl, rfl⟩ := hv
    exact ⟨cells_of_row hg ht _ _ hc.1, cells_of_row hg ht _ _ hc.2, fun i => by simp [World.frozen?, hg]⟩
theorem two_oneR (a b : ByteArray) : ∀ u ∈ (#[.string a, .string b] : Array Value).toList, u.oneCell' = true := by
  intro u hu
  simp at hu
  rcases hu with rfl | rfl <;> rfl
/-- What Set answers. -/
def RetR (w : World) (r : List Rf × Int) (e : Ending) (w' : World) : Prop := ∃ v', e = .returned (.tuple #[v', .int .i64 r.2]) ∧ rdR w' v' r.1 ∧ Below w.heap.size w w'
theorem setR_1 {l : List Rf} {name old id : ByteArray} (h : ¬ GoodR namedR l) : setR namedR l name old id = ([], 3) := by unfold setR; rw [if_pos h]
theorem setR_2 {l : List Rf} {name old id : ByteArray} (h : GoodR namedR l) (h2 : formR namedR name old id = false) : setR namedR l name old id = ([], 2) := by unfold setR; rw [if_neg (fun k => k h), if_pos h2]
theorem setR_3 {l : List Rf} {name old id : ByteArray} (h : GoodR namedR l) (h2 : formR namedR name old id = true) (h3 : getR l name ≠ old) : setR namedR l name old id = ([], 9) := by unfold setR; rw [if_neg (fun k => k h), if_neg (by rw [h2]; decide), if_pos h3]
theorem setO_1 {l : List Rf} {name id : ByteArray} {f : Rf} (h : rget name l = some f) (h2 : id = nilB) : setO l name id = (rdel name l, 0) := by unfold setO; rw [h]; simp only; rw [if_pos h2]
theorem setO_2 {l : List Rf} {name id : ByteArray} {f : Rf} (h : rget name l = some f) (h2 : id ≠ nilB) : setO l name id = (rput ⟨name, id⟩ l, 0) := by unfold setO; rw [h]; simp only; rw [if_neg h2]
theorem setO_3 {l : List Rf} {name id : ByteArray} (h : rget name l = none) (h2 : id = nilB) : setO l name id = (l, 0) := by unfold setO; rw [h]; simp only; rw [if_pos h2]
theorem setO_4 {l : List Rf} {name id : ByteArray} (h : rget name l = none) (h2 : id ≠ nilB) (h3 : 32 ≤ l.length) : setO l name id = ([], 6) := by unfold setO; rw [h]; simp only; rw [if_neg h2, if_pos h3]
theorem setO_5 {l : List Rf} {name id : ByteArray} (h : rget name l = none) (h2 : id ≠ nilB) (h3 : ¬ 32 ≤ l.length) : setO l name id = (rput ⟨name, id⟩ l, 0) := by unfold setO; rw [h]; simp only; rw [if_neg h2, if_neg h3]
set_option maxRecDepth 100000 in
set_option maxHeartbeats 3200000 in
theorem setR_any (l : List Rf) (name old id : ByteArray) (v : Value) (w : World) (hr : rdR w v l) :
    Calls Tryd.prog 8 #[v, .string name, .string old, .string id] w (RetR w (setR namedR l name old id)) := by
  obtain ⟨r, hr0⟩ : ∃ r, r = setR namedR l name old id := ⟨_, rfl⟩
  rw [← hr0]
  have HRR := Lib.hid hr0
  have HR := Lib.hid hr
  have HGC := Lib.hid (goodR_any l v w hr)
  obtain ⟨ao, cp, rfl⟩ := rd_form hr
  clear hr0 hr
  by_cases hgood : GoodR namedR l
  · rw [goodRB_true hgood] at HGC
    have HGD := Lib.hid hgood
    have hl := hgood.len
    have HLL := Lib.hid hl
    have HNM := Lib.hid (fun w' => namedR_any name w')
    have HGT := Lib.hid (fun w' (h : Below w.heap.size w w') => getR_any l name _ w' hgood.srt (HR.out.below h) (by omega))
    have HFI := Lib.hid (fun w' (h : Below w.heap.size w w') => findR_any l name _ w' hgood.srt (HR.out.below h) (by omega))
    have HCL := Lib.hid (fun w' (h : Below w.heap.size w w') => cloneR_any l _ w' (HR.out.below h) (by omega))
    obtain ⟨k, hk⟩ : ∃ k, k = ridx name l := ⟨_, rfl⟩
    have HK := Lib.hid hk
    rw [← hk] at HFI
    obtain ⟨nm, hnm⟩ : ∃ nm, nm = namedR name := ⟨_, rfl⟩
    rw [← hnm] at HNM
    have HNMD := Lib.hid hnm.symm
    obtain ⟨q, hq⟩ : ∃ q, q = getR l name := ⟨_, rfl⟩
    rw [← hq] at HGT
    have HQ := Lib.hid hq
    clear hgood hk hnm hq hl
    cases nm with
    | false =>
      have hr1 := HRR.out.trans (setR_2 HGD.out (by rw [formR, HNMD.out]; rfl))
      subst hr1
      go_enter Tryd.func8, Tryd.ntmps8
      go_wp2_with fail
      (with_reducible refine (HGC.out).mono ?_)
      rintro e w1 ⟨rfl, hb⟩
      have HB1 := Lib.hid (hb)
      clear hb
      go_wp2_with fail
      (with_reducible refine (HNM.out w1).mono ?_)
      rintro e w2 ⟨rfl, hb⟩
      have HB2 := Lib.hid (HB1.out.trans (hb.mono HB1.out.size))
      clear hb
      go_wp2_with fail
      go_ret2
      exact ⟨_, rfl, rdR_nil _, HB2.out⟩
    | true =>
      by_cases hoe : old.size = 0
      · have ho := Lib.hid hoe
        have oe0 : ((old.size : Int) == 0) = true := by rw [hoe]; rfl
        have on0 : ((old.size : Int) != 0) = false := by rw [bne, oe0]; rfl
        have oe32 : ((old.size : Int) == 32) = false := beq_eq_false_iff_ne.2 (by omega)
        have on32 : ((old.size : Int) != 32) = true := by rw [bne, oe32]; rfl
        clear hoe
        by_cases hie : id.size = 0
        · have hi := Lib.hid hie
          have ie0 : ((id.size : Int) == 0) = true := by rw [hie]; rfl
          have in0 : ((id.size : Int) != 0) = false := by rw [bne, ie0]; rfl
          have ie32 : ((id.size : Int) == 32) = false := beq_eq_false_iff_ne.2 (by omega)
          have in32 : ((id.size : Int) != 32) = true := by rw [bne, ie32]; rfl
          clear hie
          have HFM := Lib.hid (show formR namedR name old id = true from formR_iff.2 ⟨HNMD.out, .inl ho.out, .inl hi.out⟩)
          have hid0 : id = nilB := nil_of_size hi.out
          have hem : id.toList.isEmpty = true := by rw [isEmptyR]; exact decide_eq_true hid0
          have HID := Lib.hid hid0
          clear hid0
          by_cases hqo : q = old
          · have HEQ := Lib.hid (HRR.out.trans (setR_eq HGD.out HFM.out (HQ.out.symm.trans hqo)))
            have hqb : (q.toList == old.toList) = true := by rw [hqo]; exact beq_self_eq_true _
            clear hqo
            cases hg : rget name l with
            | some f =>
              rw [hg] at HFI
              have HSOME := Lib.hid hg
              have hr1 := HEQ.out.trans (setO_1 hg HID.out)
              subst hr1
              obtain ⟨h1, h2, h3, h4⟩ := at_some Rf.name HGD.out.srt hg
              rw [← show k = idxL Rf.name name l from HK.out] at h1 h2 h3 h4
              have hki : (k : Int) + 1 ≤ (l.length : Int) := by omega
              have hkw : IntKind.i64.wrap ((k : Int) + 1) = (k : Int) + 1 := by rw [IntKind.wrap_i64]; have := HLL.out; omega
              have H1 := Lib.hid h1
              have HDE := Lib.hid (show rvs (l.take k) ++ rvs (l.drop (k + 1)) = rvs (rdel name l) by rw [← rvs_append, h4])
              have HDL := Lib.hid (show l.length - 1 = (rdel name l).length by have := len_del_some Rf.name HGD.out.srt hg; show _ = (delL Rf.name name l).length; omega)
              clear h1 h2 h3 h4 hg
              go_enter Tryd.func8, Tryd.ntmps8
              go_wp2_with fail
              (with_reducible refine (HGC.out).mono ?_)
              rintro e w1 ⟨rfl, hb⟩
              have HB1 := Lib.hid (hb)
              clear hb
              go_wp2_with fail
              (with_reducible refine (HNM.out w1).mono ?_)
              rintro e w2 ⟨rfl, hb⟩
              have HB2 := Lib.hid (HB1.out.trans (hb.mono HB1.out.size))
              clear hb
              go_wp2_with fail
              (with_reducible refine (HGT.out w2 HB2.out).mono ?_)
              rintro e w3 ⟨rfl, hb⟩
              have HB3 := Lib.hid (HB2.out.trans (hb.mono HB2.out.size))
              clear hb
              go_wp2_with fail
              (with_reducible refine (HFI.out w3 HB3.out).mono ?_)
              rintro e w4 ⟨rfl, hb⟩
              have HB4 := Lib.hid (HB3.out.trans (hb.mono HB3.out.size))
              clear hb
              go_wp2_with fail
              (with_reducible refine (HCL.out w4 HB4.out).mono ?_)
              rintro e w5 ⟨cv, rfl, hown, hb⟩
              have HB5 := Lib.hid (HB4.out.trans (hb.mono HB4.out.size))
              have HS5 := Lib.hid hb.size
              clear hb
              have HO := Lib.hid hown
              obtain ⟨ao2, cp2, rfl⟩ := rd_form (rdRow_of_owns hown)
              clear hown
              go_wp2_with fail
              (with_reducible refine (rf_del l.length k _ (rvs l) w5 w4.heap.size ((k : Int) + 1) rfl H1.out HO.out (rvs_one l)).mono ?_)
              rintro e w6 ⟨v', rfl, hO2, hU2, _⟩
              rw [rvs_take, rvs_drop, HDE.out, HDL.out] at hO2
              obtain ⟨ao6, cp6, rfl⟩ := rd_form (rdRow_of_owns hO2)
              have HB6 := Lib.hid (HB5.out.trans (hU2.below HB5.out.size (fun i hi => Nat.le_trans HB4.out.size (HO.out.lt i hi).1)))
              have HO6 := Lib.hid hO2
              clear hO2 hU2
              go_wp2_with fail
              go_ret2
              exact ⟨_, rfl, rdR_owns HO6.out, HB6.out⟩
            | none =>
              rw [hg] at HFI
              have hr1 := HEQ.out.trans (setO_3 hg HID.out)
              subst hr1
              clear hg
              go_enter Tryd.func8, Tryd.ntmps8
              go_wp2_with fail
              (with_reducible refine (HGC.out).mono ?_)
              rintro e w1 ⟨rfl, hb⟩
              have HB1 := Lib.hid (hb)
              clear hb
              go_wp2_with fail
              (with_reducible refine (HNM.out w1).mono ?_)
              rintro e w2 ⟨rfl, hb⟩
              have HB2 := Lib.hid (HB1.out.trans (hb.mono HB1.out.size))
              clear hb
              go_wp2_with fail
              (with_reducible refine (HGT.out w2 HB2.out).mono ?_)
              rintro e w3 ⟨rfl, hb⟩
              have HB3 := Lib.hid (HB2.out.trans (hb.mono HB2.out.size))
              clear hb
              go_wp2_with fail
              (with_reducible refine (HFI.out w3 HB3.out).mono ?_)
              rintro e w4 ⟨rfl, hb⟩
              have HB4 := Lib.hid (HB3.out.trans (hb.mono HB3.out.size))
              clear hb
              go_wp2_with fail
              (with_reducible refine (HCL.out w4 HB4.out).mono ?_)
              rintro e w5 ⟨cv, rfl, hown, hb⟩
              have HB5 := Lib.hid (HB4.out.trans (hb.mono HB4.out.size))
              have HS5 := Lib.hid hb.size
              clear hb
              have HO := Lib.hid hown
              obtain ⟨ao2, cp2, rfl⟩ := rd_form (rdRow_of_owns hown)
              clear hown
              go_wp2_with fail
              go_ret2
              exact ⟨_, rfl, rdR_owns HO.out, HB5.out⟩
          · have hr1 := HRR.out.trans (setR_3 HGD.out HFM.out (fun e => hqo (HQ.out.trans e)))
            subst hr1
            have hqb : (q.toList == old.toList) = false := beq_eq_false_iff_ne.2 (fun e => hqo (toList_inj e))
            clear hqo
            go_enter Tryd.func8, Tryd.ntmps8
            go_wp2_with fail
            (with_reducible refine (HGC.out).mono ?_)
            rintro e w1 ⟨rfl, hb⟩
            have HB1 := Lib.hid (hb)
            clear hb
            go_wp2_with fail
            (with_reducible refine (HNM.out w1).mono ?_)
            rintro e w2 ⟨rfl, hb⟩
            have HB2 := Lib.hid (HB1.out.trans (hb.mono HB1.out.size))
            clear hb
            go_wp2_with fail
            (with_reducible refine (HGT.out w2 HB2.out).mono ?_)
            rintro e w3 ⟨rfl, hb⟩
            have HB3 := Lib.hid (HB2.out.trans (hb.mono HB2.out.size))
            clear hb
            go_wp2_with fail
            go_ret2
            exact ⟨_, rfl, rdR_nil _, HB3.out⟩
        · by_cases hif : id.size = 32
          · have hie := hif
            have hi := Lib.hid hie
            have ie0 : ((id.size : Int) == 0) = false := beq_eq_false_iff_ne.2 (by omega)
            have in0 : ((id.size : Int) != 0) = true := by rw [bne, ie0]; rfl
            have ie32 : ((id.size : Int) == 32) = true := by rw [hie]; rfl
            have in32 : ((id.size : Int) != 32) = false := by rw [bne, ie32]; rfl
            clear hif hie
            have HFM := Lib.hid (show formR namedR name old id = true from formR_iff.2 ⟨HNMD.out, .inl ho.out, .inr hi.out⟩)
            have hid0 : id ≠ nilB := fun e => by have := hi.out; rw [e] at this; exact absurd this (by decide)
            have hem : id.toList.isEmpty = false := by rw [isEmptyR]; exact decide_eq_false hid0
            have HID := Lib.hid hid0
            clear hid0
            by_cases hqo : q = old
            · have HEQ := Lib.hid (HRR.out.trans (setR_eq HGD.out HFM.out (HQ.out.symm.trans hqo)))
              have hqb : (q.toList == old.toList) = true := by rw [hqo]; exact beq_self_eq_true _
              clear hqo
              cases hg : rget name l with
              | some f =>
                rw [hg] at HFI
                have HSOME := Lib.hid hg
                have hr1 := HEQ.out.trans (setO_2 hg HID.out)
                subst hr1
                obtain ⟨h1, h2, h3, h4⟩ := at_some Rf.name HGD.out.srt hg
                rw [← show k = idxL Rf.name name l from HK.out] at h1 h2 h3 h4
                have hki : (k : Int) < (l.length : Int) := by omega
                have hk0 : (0 : Int) ≤ (k : Int) := by omega
                have hkl := h1
                have H2 := Lib.hid h2
                have HPE := Lib.hid (h3 ⟨name, id⟩ rfl)
                have HPL := Lib.hid (show (rput ⟨name, id⟩ l).length = l.length from len_put_some Rf.name (f := ⟨name, id⟩) HGD.out.srt hg)
                clear h1 h2 h3 h4 hg
                go_enter Tryd.func8, Tryd.ntmps8
                go_wp2_with fail
                (with_reducible refine (HGC.out).mono ?_)
                rintro e w1 ⟨rfl, hb⟩
                have HB1 := Lib.hid (hb)
                clear hb
                go_wp2_with fail
                (with_reducible refine (HNM.out w1).mono ?_)
                rintro e w2 ⟨rfl, hb⟩
                have HB2 := Lib.hid (HB1.out.trans (hb.mono HB1.out.size))
                clear hb
                go_wp2_with fail
                (with_reducible refine (HGT.out w2 HB2.out).mono ?_)
                rintro e w3 ⟨rfl, hb⟩
                have HB3 := Lib.hid (HB2.out.trans (hb.mono HB2.out.size))
                clear hb
                go_wp2_with fail
                (with_reducible refine (HFI.out w3 HB3.out).mono ?_)
                rintro e w4 ⟨rfl, hb⟩
                have HB4 := Lib.hid (HB3.out.trans (hb.mono HB3.out.size))
                clear hb
                go_wp2_with fail
                (with_reducible refine (HCL.out w4 HB4.out).mono ?_)
                rintro e w5 ⟨cv, rfl, hown, hb⟩
                have HB5 := Lib.hid (HB4.out.trans (hb.mono HB4.out.size))
                have HS5 := Lib.hid hb.size
                clear hb
                have HO := Lib.hid hown
                obtain ⟨ao2, cp2, rfl⟩ := rd_form (rdRow_of_owns hown)
                clear hown
                obtain ⟨g, cp3, hv, hcp⟩ := own_form HO.out (by omega)
                simp only [Value.slice.injEq, true_and] at hv
                obtain ⟨rfl, rfl⟩ := hv
                obtain ⟨s0, s1, sf⟩ := own_cellsR HO.out H2.out
                have sf1 := sf (k * 2 + 1)
                have HO6 := Lib.hid (own_set HO.out (k * 2 + 1) (.string id))
                clear sf
                have HB6 := Lib.hid (HB5.out.setCell (p := ⟨g, k * 2 + 1, none⟩) (Nat.le_trans HB4.out.size (HO.out.lt g rfl).1) (.string id))
                go_wp2_with fail
                go_ret2
                refine ⟨_, rfl, rdR_owns (B := w4.heap.size) ?_, HB6.out⟩
                have h := HO6.out
                rw [rvs_set H2.out ⟨name, id⟩ ((getL_some Rf.name HSOME.out).2.symm), HPE.out] at h
                show World.ownsRow _ _ 33 2 _ (rput ⟨name, id⟩ l).length (rvs (rput ⟨name, id⟩ l))
                rw [HPL.out]
                exact h
              | none =>
                rw [hg] at HFI
                by_cases hfull : 32 ≤ l.length
                · have hr1 := HEQ.out.trans (setO_4 hg HID.out hfull)
                  subst hr1
                  have hfi : decide ((32 : Int) ≤ (l.length : Int)) = true := decide_eq_true (by omega)
                  have hfn : decide (32 ≤ l.length) = true := decide_eq_true hfull
                  clear hg hfull
                  go_enter Tryd.func8, Tryd.ntmps8
                  go_wp2_with fail
                  (with_reducible refine (HGC.out).mono ?_)
                  rintro e w1 ⟨rfl, hb⟩
                  have HB1 := Lib.hid (hb)
                  clear hb
                  go_wp2_with fail
                  (with_reducible refine (HNM.out w1).mono ?_)
                  rintro e w2 ⟨rfl, hb⟩
                  have HB2 := Lib.hid (HB1.out.trans (hb.mono HB1.out.size))
                  clear hb
                  go_wp2_with fail
                  (with_reducible refine (HGT.out w2 HB2.out).mono ?_)
                  rintro e w3 ⟨rfl, hb⟩
                  have HB3 := Lib.hid (HB2.out.trans (hb.mono HB2.out.size))
                  clear hb
                  go_wp2_with fail
                  (with_reducible refine (HFI.out w3 HB3.out).mono ?_)
                  rintro e w4 ⟨rfl, hb⟩
                  have HB4 := Lib.hid (HB3.out.trans (hb.mono HB3.out.size))
                  clear hb
                  go_wp2_with fail
                  (with_reducible refine (HCL.out w4 HB4.out).mono ?_)
                  rintro e w5 ⟨cv, rfl, hown, hb⟩
                  have HB5 := Lib.hid (HB4.out.trans (hb.mono HB4.out.size))
                  have HS5 := Lib.hid hb.size
                  clear hb
                  have HO := Lib.hid hown
                  obtain ⟨ao2, cp2, rfl⟩ := rd_form (rdRow_of_owns hown)
                  clear hown
                  go_wp2_with fail
                  go_ret2
                  exact ⟨_, rfl, rdR_nil _, HB5.out⟩
                · have hr1 := HEQ.out.trans (setO_5 hg HID.out hfull)
                  subst hr1
                  have hfi : decide ((32 : Int) ≤ (l.length : Int)) = false := decide_eq_false (by omega)
                  have hfn : decide (32 ≤ l.length) = false := decide_eq_false hfull
                  obtain ⟨hkl, hput⟩ := at_none Rf.name HGD.out.srt hg
                  rw [← show k = idxL Rf.name name l from HK.out] at hkl hput
                  have HPE := Lib.hid (hput ⟨name, id⟩ rfl)
                  have HPL := Lib.hid (show (rput ⟨name, id⟩ l).length = l.length + 1 from len_put_none Rf.name (f := ⟨name, id⟩) HGD.out.srt hg)
                  have HKL := Lib.hid hkl
                  clear hg hfull hput hkl
                  go_enter Tryd.func8, Tryd.ntmps8
                  go_wp2_with fail
                  (with_reducible refine (HGC.out).mono ?_)
                  rintro e w1 ⟨rfl, hb⟩
                  have HB1 := Lib.hid (hb)
                  clear hb
                  go_wp2_with fail
                  (with_reducible refine (HNM.out w1).mono ?_)
                  rintro e w2 ⟨rfl, hb⟩
                  have HB2 := Lib.hid (HB1.out.trans (hb.mono HB1.out.size))
                  clear hb
                  go_wp2_with fail
                  (with_reducible refine (HGT.out w2 HB2.out).mono ?_)
                  rintro e w3 ⟨rfl, hb⟩
                  have HB3 := Lib.hid (HB2.out.trans (hb.mono HB2.out.size))
                  clear hb
                  go_wp2_with fail
                  (with_reducible refine (HFI.out w3 HB3.out).mono ?_)
                  rintro e w4 ⟨rfl, hb⟩
                  have HB4 := Lib.hid (HB3.out.trans (hb.mono HB3.out.size))
                  clear hb
                  go_wp2_with fail
                  (with_reducible refine (HCL.out w4 HB4.out).mono ?_)
                  rintro e w5 ⟨cv, rfl, hown, hb⟩
                  have HB5 := Lib.hid (HB4.out.trans (hb.mono HB4.out.size))
                  have HS5 := Lib.hid hb.size
                  clear hb
                  have HO := Lib.hid hown
                  obtain ⟨ao2, cp2, rfl⟩ := rd_form (rdRow_of_owns hown)
                  clear hown
                  have HBA := Lib.hid (HB5.out.alloc HB5.out.size (.cells #[.string name, .string id] 33))
                  have HOA := Lib.hid (HO.out.alloc (.cells #[.string name, .string id] 33))
                  have HVA := Lib.hid (show (w5.alloc (.cells #[.string name, .string id] 33)).heap[w5.heap.size]? = some (.cells #[.string name, .string id] 33 (0, 0)) from heap_alloc_new w5 _)
                  go_wp2_with fail
                  (with_reducible refine (rf_ins l.length k _ (rvs l) _ w4.heap.size w5.heap.size #[.string name, .string id] HKL.out HOA.out (rvs_one l) (Nat.le_trans HS5.out (by simp)) HVA.out rfl (two_oneR _ _) (fun e => absurd (HO.out.lt _ e).2 (Nat.lt_irrefl _)) (by have := HLL.out; omega)).mono ?_)
                  rintro e w6 ⟨v', rfl, hO2, hU2⟩
                  have h2 : (rvs l).take (k * 2) ++ (#[.string name, .string id] : Array Value).toList ++ (rvs l).drop (k * 2) = rvs (rput ⟨name, id⟩ l) := by rw [rvs_take, rvs_drop]; show _ = rvs (putL Rf.name ⟨name, id⟩ l); rw [← HPE.out, rvs_append, List.append_assoc]; rfl
                  rw [h2, ← HPL.out] at hO2
                  obtain ⟨ao6, cp6, rfl⟩ := rd_form (rdRow_of_owns hO2)
                  have HB6 := Lib.hid (HBA.out.trans (hU2.below HBA.out.size (fun i hi => Nat.le_trans HB4.out.size (HOA.out.lt i hi).1)))
                  have HO6 := Lib.hid hO2
                  clear hO2 hU2 h2
                  go_wp2_with fail
                  go_ret2
                  exact ⟨_, rfl, rdR_owns HO6.out, HB6.out⟩
            · have hr1 := HRR.out.trans (setR_3 HGD.out HFM.out (fun e => hqo (HQ.out.trans e)))
              subst hr1
              have hqb : (q.toList == old.toList) = false := beq_eq_false_iff_ne.2 (fun e => hqo (toList_inj e))
              clear hqo
              go_enter Tryd.func8, Tryd.ntmps8
              go_wp2_with fail
              (with_reducible refine (HGC.out).mono ?_)
              rintro e w1 ⟨rfl, hb⟩
              have HB1 := Lib.hid (hb)
              clear hb
              go_wp2_with fail
              (with_reducible refine (HNM.out w1).mono ?_)
              rintro e w2 ⟨rfl, hb⟩
              have HB2 := Lib.hid (HB1.out.trans (hb.mono HB1.out.size))
              clear hb
              go_wp2_with fail
              (with_reducible refine (HGT.out w2 HB2.out).mono ?_)
              rintro e w3 ⟨rfl, hb⟩
              have HB3 := Lib.hid (HB2.out.trans (hb.mono HB2.out.size))
              clear hb
              go_wp2_with fail
              go_ret2
              exact ⟨_, rfl, rdR_nil _, HB3.out⟩
          · have HF := Lib.hid (show formR namedR name old id = false by rw [formR, decide_eq_false hie, decide_eq_false hif]; simp)
            have ie0 : ((id.size : Int) == 0) = false := beq_eq_false_iff_ne.2 (by omega)
            have in0 : ((id.size : Int) != 0) = true := by rw [bne, ie0]; rfl
            have ie32 : ((id.size : Int) == 32) = false := beq_eq_false_iff_ne.2 (by omega)
            have in32 : ((id.size : Int) != 32) = true := by rw [bne, ie32]; rfl
            clear hie hif
            have hr1 := HRR.out.trans (setR_2 HGD.out HF.out)
            subst hr1
            go_enter Tryd.func8, Tryd.ntmps8
            go_wp2_with fail
            (with_reducible refine (HGC.out).mono ?_)
            rintro e w1 ⟨rfl, hb⟩
            have HB1 := Lib.hid (hb)
            clear hb
            go_wp2_with fail
            (with_reducible refine (HNM.out w1).mono ?_)
            rintro e w2 ⟨rfl, hb⟩
            have HB2 := Lib.hid (HB1.out.trans (hb.mono HB1.out.size))
            clear hb
            go_wp2_with fail
            go_ret2
            exact ⟨_, rfl, rdR_nil _, HB2.out⟩
      · by_cases hof : old.size = 32
        · have hoe := hof
          have ho := Lib.hid hoe
          have oe0 : ((old.size : Int) == 0) = false := beq_eq_false_iff_ne.2 (by omega)
          have on0 : ((old.size : Int) != 0) = true := by rw [bne, oe0]; rfl
          have oe32 : ((old.size : Int) == 32) = true := by rw [hoe]; rfl
          have on32 : ((old.size : Int) != 32) = false := by rw [bne, oe32]; rfl
          clear hof hoe
          by_cases hie : id.size = 0
          · have hi := Lib.hid hie
            have ie0 : ((id.size : Int) == 0) = true := by rw [hie]; rfl
            have in0 : ((id.size : Int) != 0) = false := by rw [bne, ie0]; rfl
            have ie32 : ((id.size : Int) == 32) = false := beq_eq_false_iff_ne.2 (by omega)
            have in32 : ((id.size : Int) != 32) = true := by rw [bne, ie32]; rfl
            clear hie
            have HFM := Lib.hid (show formR namedR name old id = true from formR_iff.2 ⟨HNMD.out, .inr ho.out, .inl hi.out⟩)
            have hid0 : id = nilB := nil_of_size hi.out
            have hem : id.toList.isEmpty = true := by rw [isEmptyR]; exact decide_eq_true hid0
            have HID := Lib.hid hid0
            clear hid0
            by_cases hqo : q = old
            · have HEQ := Lib.hid (HRR.out.trans (setR_eq HGD.out HFM.out (HQ.out.symm.trans hqo)))
              have hqb : (q.toList == old.toList) = true := by rw [hqo]; exact beq_self_eq_true _
              clear hqo
              cases hg : rget name l with
              | some f =>
                rw [hg] at HFI
                have HSOME := Lib.hid hg
                have hr1 := HEQ.out.trans (setO_1 hg HID.out)
                subst hr1
                obtain ⟨h1, h2, h3, h4⟩ := at_some Rf.name HGD.out.srt hg
                rw [← show k = idxL Rf.name name l from HK.out] at h1 h2 h3 h4
                have hki : (k : Int) + 1 ≤ (l.length : Int) := by omega
                have hkw : IntKind.i64.wrap ((k : Int) + 1) = (k : Int) + 1 := by rw [IntKind.wrap_i64]; have := HLL.out; omega
                have H1 := Lib.hid h1
                have HDE := Lib.hid (show rvs (l.take k) ++ rvs (l.drop (k + 1)) = rvs (rdel name l) by rw [← rvs_append, h4])
                have HDL := Lib.hid (show l.length - 1 = (rdel name l).length by have := len_del_some Rf.name HGD.out.srt hg; show _ = (delL Rf.name name l).length; omega)
                clear h1 h2 h3 h4 hg
                go_enter Tryd.func8, Tryd.ntmps8
                go_wp2_with fail
                (with_reducible refine (HGC.out).mono ?_)
                rintro e w1 ⟨rfl, hb⟩
                have HB1 := Lib.hid (hb)
                clear hb
                go_wp2_with fail
                (with_reducible refine (HNM.out w1).mono ?_)
                rintro e w2 ⟨rfl, hb⟩
                have HB2 := Lib.hid (HB1.out.trans (hb.mono HB1.out.size))
                clear hb
                go_wp2_with fail
                (with_reducible refine (HGT.out w2 HB2.out).mono ?_)
                rintro e w3 ⟨rfl, hb⟩
                have HB3 := Lib.hid (HB2.out.trans (hb.mono HB2.out.size))
                clear hb
                go_wp2_with fail
                (with_reducible refine (HFI.out w3 HB3.out).mono ?_)
                rintro e w4 ⟨rfl, hb⟩
                have HB4 := Lib.hid (HB3.out.trans (hb.mono HB3.out.size))
                clear hb
                go_wp2_with fail
                (with_reducible refine (HCL.out w4 HB4.out).mono ?_)
                rintro e w5 ⟨cv, rfl, hown, hb⟩
                have HB5 := Lib.hid (HB4.out.trans (hb.mono HB4.out.size))
                have HS5 := Lib.hid hb.size
                clear hb
                have HO := Lib.hid hown
                obtain ⟨ao2, cp2, rfl⟩ := rd_form (rdRow_of_owns hown)
                clear hown
                go_wp2_with fail
                (with_reducible refine (rf_del l.length k _ (rvs l) w5 w4.heap.size ((k : Int) + 1) rfl H1.out HO.out (rvs_one l)).mono ?_)
                rintro e w6 ⟨v', rfl, hO2, hU2, _⟩
                rw [rvs_take, rvs_drop, HDE.out, HDL.out] at hO2
                obtain ⟨ao6, cp6, rfl⟩ := rd_form (rdRow_of_owns hO2)
                have HB6 := Lib.hid (HB5.out.trans (hU2.below HB5.out.size (fun i hi => Nat.le_trans HB4.out.size (HO.out.lt i hi).1)))
                have HO6 := Lib.hid hO2
                clear hO2 hU2
                go_wp2_with fail
                go_ret2
                exact ⟨_, rfl, rdR_owns HO6.out, HB6.out⟩
              | none =>
                rw [hg] at HFI
                have hr1 := HEQ.out.trans (setO_3 hg HID.out)
                subst hr1
                clear hg
                go_enter Tryd.func8, Tryd.ntmps8
                go_wp2_with fail
                (with_reducible refine (HGC.out).mono ?_)
                rintro e w1 ⟨rfl, hb⟩
                have HB1 := Lib.hid (hb)
                clear hb
                go_wp2_with fail
                (with_reducible refine (HNM.out w1).mono ?_)
                rintro e w2 ⟨rfl, hb⟩
                have HB2 := Lib.hid (HB1.out.trans (hb.mono HB1.out.size))
                clear hb
                go_wp2_with fail
                (with_reducible refine (HGT.out w2 HB2.out).mono ?_)
                rintro e w3 ⟨rfl, hb⟩
                have HB3 := Lib.hid (HB2.out.trans (hb.mono HB2.out.size))
                clear hb
                go_wp2_with fail
                (with_reducible refine (HFI.out w3 HB3.out).mono ?_)
                rintro e w4 ⟨rfl, hb⟩
                have HB4 := Lib.hid (HB3.out.trans (hb.mono HB3.out.size))
                clear hb
                go_wp2_with fail
                (with_reducible refine (HCL.out w4 HB4.out).mono ?_)
                rintro e w5 ⟨cv, rfl, hown, hb⟩
                have HB5 := Lib.hid (HB4.out.trans (hb.mono HB4.out.size))
                have HS5 := Lib.hid hb.size
                clear hb
                have HO := Lib.hid hown
                obtain ⟨ao2, cp2, rfl⟩ := rd_form (rdRow_of_owns hown)
                clear hown
                go_wp2_with fail
                go_ret2
                exact ⟨_, rfl, rdR_owns HO.out, HB5.out⟩
            · have hr1 := HRR.out.trans (setR_3 HGD.out HFM.out (fun e => hqo (HQ.out.trans e)))
              subst hr1
              have hqb : (q.toList == old.toList) = false := beq_eq_false_iff_ne.2 (fun e => hqo (toList_inj e))
              clear hqo
              go_enter Tryd.func8, Tryd.ntmps8
              go_wp2_with fail
              (with_reducible refine (HGC.out).mono ?_)
              rintro e w1 ⟨rfl, hb⟩
              have HB1 := Lib.hid (hb)
              clear hb
              go_wp2_with fail
              (with_reducible refine (HNM.out w1).mono ?_)
              rintro e w2 ⟨rfl, hb⟩
              have HB2 := Lib.hid (HB1.out.trans (hb.mono HB1.out.size))
              clear hb
              go_wp2_with fail
              (with_reducible refine (HGT.out w2 HB2.out).mono ?_)
              rintro e w3 ⟨rfl, hb⟩
              have HB3 := Lib.hid (HB2.out.trans (hb.mono HB2.out.size))
              clear hb
              go_wp2_with fail
              go_ret2
              exact ⟨_, rfl, rdR_nil _, HB3.out⟩
          · by_cases hif : id.size = 32
            · have hie := hif
              have hi := Lib.hid hie
              have ie0 : ((id.size : Int) == 0) = false := beq_eq_false_iff_ne.2 (by omega)
              have in0 : ((id.size : Int) != 0) = true := by rw [bne, ie0]; rfl
              have ie32 : ((id.size : Int) == 32) = true := by rw [hie]; rfl
              have in32 : ((id.size : Int) != 32) = false := by rw [bne, ie32]; rfl
              clear hif hie
              have HFM := Lib.hid (show formR namedR name old id = true from formR_iff.2 ⟨HNMD.out, .inr ho.out, .inr hi.out⟩)
              have hid0 : id ≠ nilB := fun e => by have := hi.out; rw [e] at this; exact absurd this (by decide)
              have hem : id.toList.isEmpty = false := by rw [isEmptyR]; exact decide_eq_false hid0
              have HID := Lib.hid hid0
              clear hid0
              by_cases hqo : q = old
              · have HEQ := Lib.hid (HRR.out.trans (setR_eq HGD.out HFM.out (HQ.out.symm.trans hqo)))
                have hqb : (q.toList == old.toList) = true := by rw [hqo]; exact beq_self_eq_true _
                clear hqo
                cases hg : rget name l with
                | some f =>
                  rw [hg] at HFI
                  have HSOME := Lib.hid hg
                  have hr1 := HEQ.out.trans (setO_2 hg HID.out)
                  subst hr1
                  obtain ⟨h1, h2, h3, h4⟩ := at_some Rf.name HGD.out.srt hg
                  rw [← show k = idxL Rf.name name l from HK.out] at h1 h2 h3 h4
                  have hki : (k : Int) < (l.length : Int) := by omega
                  have hk0 : (0 : Int) ≤ (k : Int) := by omega
                  have hkl := h1
                  have H2 := Lib.hid h2
                  have HPE := Lib.hid (h3 ⟨name, id⟩ rfl)
                  have HPL := Lib.hid (show (rput ⟨name, id⟩ l).length = l.length from len_put_some Rf.name (f := ⟨name, id⟩) HGD.out.srt hg)
                  clear h1 h2 h3 h4 hg
                  go_enter Tryd.func8, Tryd.ntmps8
                  go_wp2_with fail
                  (with_reducible refine (HGC.out).mono ?_)
                  rintro e w1 ⟨rfl, hb⟩
                  have HB1 := Lib.hid (hb)
                  clear hb
                  go_wp2_with fail
                  (with_reducible refine (HNM.out w1).mono ?_)
                  rintro e w2 ⟨rfl, hb⟩
                  have HB2 := Lib.hid (HB1.out.trans (hb.mono HB1.out.size))
                  clear hb
                  go_wp2_with fail
                  (with_reducible refine (HGT.out w2 HB2.out).mono ?_)
                  rintro e w3 ⟨rfl, hb⟩
                  have HB3 := Lib.hid (HB2.out.trans (hb.mono HB2.out.size))
                  clear hb
                  go_wp2_with fail
                  (with_reducible refine (HFI.out w3 HB3.out).mono ?_)
                  rintro e w4 ⟨rfl, hb⟩
                  have HB4 := Lib.hid (HB3.out.trans (hb.mono HB3.out.size))
                  clear hb
                  go_wp2_with fail
                  (with_reducible refine (HCL.out w4 HB4.out).mono ?_)
                  rintro e w5 ⟨cv, rfl, hown, hb⟩
                  have HB5 := Lib.hid (HB4.out.trans (hb.mono HB4.out.size))
                  have HS5 := Lib.hid hb.size
                  clear hb
                  have HO := Lib.hid hown
                  obtain ⟨ao2, cp2, rfl⟩ := rd_form (rdRow_of_owns hown)
                  clear hown
                  obtain ⟨g, cp3, hv, hcp⟩ := own_form HO.out (by omega)
                  simp only [Value.slice.injEq, true_and] at hv
                  obtain ⟨rfl, rfl⟩ := hv
                  obtain ⟨s0, s1, sf⟩ := own_cellsR HO.out H2.out
                  have sf1 := sf (k * 2 + 1)
                  have HO6 := Lib.hid (own_set HO.out (k * 2 + 1) (.string id))
                  clear sf
                  have HB6 := Lib.hid (HB5.out.setCell (p := ⟨g, k * 2 + 1, none⟩) (Nat.le_trans HB4.out.size (HO.out.lt g rfl).1) (.string id))
                  go_wp2_with fail
                  go_ret2
                  refine ⟨_, rfl, rdR_owns (B := w4.heap.size) ?_, HB6.out⟩
                  have h := HO6.out
                  rw [rvs_set H2.out ⟨name, id⟩ ((getL_some Rf.name HSOME.out).2.symm), HPE.out] at h
                  show World.ownsRow _ _ 33 2 _ (rput ⟨name, id⟩ l).length (rvs (rput ⟨name, id⟩ l))
                  rw [HPL.out]
                  exact h
                | none =>
                  rw [hg] at HFI
                  by_cases hfull : 32 ≤ l.length
                  · have hr1 := HEQ.out.trans (setO_4 hg HID.out hfull)
                    subst hr1
                    have hfi : decide ((32 : Int) ≤ (l.length : Int)) = true := decide_eq_true (by omega)
                    have hfn : decide (32 ≤ l.length) = true := decide_eq_true hfull
                    clear hg hfull
                    go_enter Tryd.func8, Tryd.ntmps8
                    go_wp2_with fail
                    (with_reducible refine (HGC.out).mono ?_)
                    rintro e w1 ⟨rfl, hb⟩
                    have HB1 := Lib.hid (hb)
                    clear hb
                    go_wp2_with fail
                    (with_reducible refine (HNM.out w1).mono ?_)
                    rintro e w2 ⟨rfl, hb⟩
                    have HB2 := Lib.hid (HB1.out.trans (hb.mono HB1.out.size))
                    clear hb
                    go_wp2_with fail
                    (with_reducible refine (HGT.out w2 HB2.out).mono ?_)
                    rintro e w3 ⟨rfl, hb⟩
                    have HB3 := Lib.hid (HB2.out.trans (hb.mono HB2.out.size))
                    clear hb
                    go_wp2_with fail
                    (with_reducible refine (HFI.out w3 HB3.out).mono ?_)
                    rintro e w4 ⟨rfl, hb⟩
                    have HB4 := Lib.hid (HB3.out.trans (hb.mono HB3.out.size))
                    clear hb
                    go_wp2_with fail
                    (with_reducible refine (HCL.out w4 HB4.out).mono ?_)
                    rintro e w5 ⟨cv, rfl, hown, hb⟩
                    have HB5 := Lib.hid (HB4.out.trans (hb.mono HB4.out.size))
                    have HS5 := Lib.hid hb.size
                    clear hb
                    have HO := Lib.hid hown
                    obtain ⟨ao2, cp2, rfl⟩ := rd_form (rdRow_of_owns hown)
                    clear hown
                    go_wp2_with fail
                    go_ret2
                    exact ⟨_, rfl, rdR_nil _, HB5.out⟩
                  · have hr1 := HEQ.out.trans (setO_5 hg HID.out hfull)
                    subst hr1
                    have hfi : decide ((32 : Int) ≤ (l.length : Int)) = false := decide_eq_false (by omega)
                    have hfn : decide (32 ≤ l.length) = false := decide_eq_false hfull
                    obtain ⟨hkl, hput⟩ := at_none Rf.name HGD.out.srt hg
                    rw [← show k = idxL Rf.name name l from HK.out] at hkl hput
                    have HPE := Lib.hid (hput ⟨name, id⟩ rfl)
                    have HPL := Lib.hid (show (rput ⟨name, id⟩ l).length = l.length + 1 from len_put_none Rf.name (f := ⟨name, id⟩) HGD.out.srt hg)
                    have HKL := Lib.hid hkl
                    clear hg hfull hput hkl
                    go_enter Tryd.func8, Tryd.ntmps8
                    go_wp2_with fail
                    (with_reducible refine (HGC.out).mono ?_)
                    rintro e w1 ⟨rfl, hb⟩
                    have HB1 := Lib.hid (hb)
                    clear hb
                    go_wp2_with fail
                    (with_reducible refine (HNM.out w1).mono ?_)
                    rintro e w2 ⟨rfl, hb⟩
                    have HB2 := Lib.hid (HB1.out.trans (hb.mono HB1.out.size))
                    clear hb
                    go_wp2_with fail
                    (with_reducible refine (HGT.out w2 HB2.out).mono ?_)
                    rintro e w3 ⟨rfl, hb⟩
                    have HB3 := Lib.hid (HB2.out.trans (hb.mono HB2.out.size))
                    clear hb
                    go_wp2_with fail
                    (with_reducible refine (HFI.out w3 HB3.out).mono ?_)
                    rintro e w4 ⟨rfl, hb⟩
                    have HB4 := Lib.hid (HB3.out.trans (hb.mono HB3.out.size))
                    clear hb
                    go_wp2_with fail
                    (with_reducible refine (HCL.out w4 HB4.out).mono ?_)
                    rintro e w5 ⟨cv, rfl, hown, hb⟩
                    have HB5 := Lib.hid (HB4.out.trans (hb.mono HB4.out.size))
                    have HS5 := Lib.hid hb.size
                    clear hb
                    have HO := Lib.hid hown
                    obtain ⟨ao2, cp2, rfl⟩ := rd_form (rdRow_of_owns hown)
                    clear hown
                    have HBA := Lib.hid (HB5.out.alloc HB5.out.size (.cells #[.string name, .string id] 33))
                    have HOA := Lib.hid (HO.out.alloc (.cells #[.string name, .string id] 33))
                    have HVA := Lib.hid (show (w5.alloc (.cells #[.string name, .string id] 33)).heap[w5.heap.size]? = some (.cells #[.string name, .string id] 33 (0, 0)) from heap_alloc_new w5 _)
                    go_wp2_with fail
                    (with_reducible refine (rf_ins l.length k _ (rvs l) _ w4.heap.size w5.heap.size #[.string name, .string id] HKL.out HOA.out (rvs_one l) (Nat.le_trans HS5.out (by simp)) HVA.out rfl (two_oneR _ _) (fun e => absurd (HO.out.lt _ e).2 (Nat.lt_irrefl _)) (by have := HLL.out; omega)).mono ?_)
                    rintro e w6 ⟨v', rfl, hO2, hU2⟩
                    have h2 : (rvs l).take (k * 2) ++ (#[.string name, .string id] : Array Value).toList ++ (rvs l).drop (k * 2) = rvs (rput ⟨name, id⟩ l) := by rw [rvs_take, rvs_drop]; show _ = rvs (putL Rf.name ⟨name, id⟩ l); rw [← HPE.out, rvs_append, List.append_assoc]; rfl
                    rw [h2, ← HPL.out] at hO2
                    obtain ⟨ao6, cp6, rfl⟩ := rd_form (rdRow_of_owns hO2)
                    have HB6 := Lib.hid (HBA.out.trans (hU2.below HBA.out.size (fun i hi => Nat.le_trans HB4.out.size (HOA.out.lt i hi).1)))
                    have HO6 := Lib.hid hO2
                    clear hO2 hU2 h2
                    go_wp2_with fail
                    go_ret2
                    exact ⟨_, rfl, rdR_owns HO6.out, HB6.out⟩
              · have hr1 := HRR.out.trans (setR_3 HGD.out HFM.out (fun e => hqo (HQ.out.trans e)))
                subst hr1
                have hqb : (q.toList == old.toList) = false := beq_eq_false_iff_ne.2 (fun e => hqo (toList_inj e))
                clear hqo
                go_enter Tryd.func8, Tryd.ntmps8
                go_wp2_with fail
                (with_reducible refine (HGC.out).mono ?_)
                rintro e w1 ⟨rfl, hb⟩
                have HB1 := Lib.hid (hb)
                clear hb
                go_wp2_with fail
                (with_reducible refine (HNM.out w1).mono ?_)
                rintro e w2 ⟨rfl, hb⟩
                have HB2 := Lib.hid (HB1.out.trans (hb.mono HB1.out.size))
                clear hb
                go_wp2_with fail
                (with_reducible refine (HGT.out w2 HB2.out).mono ?_)
                rintro e w3 ⟨rfl, hb⟩
                have HB3 := Lib.hid (HB2.out.trans (hb.mono HB2.out.size))
                clear hb
                go_wp2_with fail
                go_ret2
                exact ⟨_, rfl, rdR_nil _, HB3.out⟩
            · have HF := Lib.hid (show formR namedR name old id = false by rw [formR, decide_eq_false hie, decide_eq_false hif]; simp)
              have ie0 : ((id.size : Int) == 0) = false := beq_eq_false_iff_ne.2 (by omega)
              have in0 : ((id.size : Int) != 0) = true := by rw [bne, ie0]; rfl
              have ie32 : ((id.size : Int) == 32) = false := beq_eq_false_iff_ne.2 (by omega)
              have in32 : ((id.size : Int) != 32) = true := by rw [bne, ie32]; rfl
              clear hie hif
              have hr1 := HRR.out.trans (setR_2 HGD.out HF.out)
              subst hr1
              go_enter Tryd.func8, Tryd.ntmps8
              go_wp2_with fail
              (with_reducible refine (HGC.out).mono ?_)
              rintro e w1 ⟨rfl, hb⟩
              have HB1 := Lib.hid (hb)
              clear hb
              go_wp2_with fail
              (with_reducible refine (HNM.out w1).mono ?_)
              rintro e w2 ⟨rfl, hb⟩
              have HB2 := Lib.hid (HB1.out.trans (hb.mono HB1.out.size))
              clear hb
              go_wp2_with fail
              go_ret2
              exact ⟨_, rfl, rdR_nil _, HB2.out⟩
        · have HF := Lib.hid (show formR namedR name old id = false by rw [formR, decide_eq_false hoe, decide_eq_false hof]; simp)
          have oe0 : ((old.size : Int) == 0) = false := beq_eq_false_iff_ne.2 (by omega)
          have on0 : ((old.size : Int) != 0) = true := by rw [bne, oe0]; rfl
          have oe32 : ((old.size : Int) == 32) = false := beq_eq_false_iff_ne.2 (by omega)
          have on32 : ((old.size : Int) != 32) = true := by rw [bne, oe32]; rfl
          clear hoe hof
          have hr1 := HRR.out.trans (setR_2 HGD.out HF.out)
          subst hr1
          go_enter Tryd.func8, Tryd.ntmps8
          go_wp2_with fail
          (with_reducible refine (HGC.out).mono ?_)
          rintro e w1 ⟨rfl, hb⟩
          have HB1 := Lib.hid (hb)
          clear hb
          go_wp2_with fail
          (with_reducible refine (HNM.out w1).mono ?_)
          rintro e w2 ⟨rfl, hb⟩
          have HB2 := Lib.hid (HB1.out.trans (hb.mono HB1.out.size))
          clear hb
          go_wp2_with fail
          go_ret2
          exact ⟨_, rfl, rdR_nil _, HB2.out⟩
  · rw [goodRB_false hgood] at HGC
    have hr1 := HRR.out.trans (setR_1 hgood)
    subst hr1
    clear hgood
    go_enter Tryd.func8, Tryd.ntmps8
    go_wp2_with fail
    (with_reducible refine HGC.out.mono ?_)
    rintro e w1 ⟨rfl, hb⟩
    have HB1 := Lib.hid hb
    clear hb
    go_wp2_with fail
    go_ret2
    exact ⟨_, rfl, rdR_nil _, HB1.out⟩
end Go.Proofs.YtnggcldpojebkaaDoor
