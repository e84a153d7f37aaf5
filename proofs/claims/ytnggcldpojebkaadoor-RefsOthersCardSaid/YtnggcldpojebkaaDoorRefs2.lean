/- The walks of slices.BinarySearchFunc at refs, and package refs' find and Get. -/
import Derived.Test.YtnggcldpojebkaaDoorRefs1
import Derived.Test.YtnggcldpojebkaaDoorCmp
namespace Go.Proofs.YtnggcldpojebkaaDoor
open Go.RowKit
set_option linter.unusedVariables false
set_option linter.unusedSimpArgs false

set_option maxRecDepth 100000 in
set_option maxHeartbeats 3200000 in
theorem findR1_any (f : Rf) (n : ByteArray) (w : World) : Calls Tryd.prog 19 #[.agg #[.string f.name, .string f.id], .string n] w fun e w' => e = .returned (.int .i64 (cmpB f.name n)) ∧ Below w.heap.size w w' := by
  have HB := Lib.hid ((Below.refl w.heap.size w).alloc (Nat.le_refl _) (.cells #[.string f.name, .string f.id] 33))
  go_enter Tryd.func19, Tryd.ntmps19
  go_wp2_with fail
  (with_reducible refine (compare_any f.name n _).mono ?_)
  rintro e w' ⟨rfl, rfl⟩
  go_wp2_with fail
  go_ret
  exact ⟨rfl, HB.out⟩

theorem getD_memR {l : List Rf} {k : Nat} (h : k < l.length) : l.getD k zeroRf ∈ l := by rw [List.getD, List.getElem?_eq_getElem h]; exact List.getElem_mem h
theorem rsrt_lt {l : List Rf} (h : RSrt l) {i j : Nat} (hi : i < j) (hj : j < l.length) : lt (l.getD i zeroRf).name (l.getD j zeroRf).name := by
  have := List.pairwise_iff_getElem.1 h i j (by omega) hj hi
  rw [List.getD, List.getD, List.getElem?_eq_getElem hj, List.getElem?_eq_getElem (show i < l.length by omega)]
  exact this
theorem ridx_bound {l : List Rf} {n : ByteArray} (hs : RSrt l) {i : Nat} (hi : i ≤ l.length) (h1 : ∀ t, t < i → lt (l.getD t zeroRf).name n) (h2 : i < l.length → ¬ lt (l.getD i zeroRf).name n) : ridx n l = i := by
  have e : l = l.take i ++ l.drop i := (List.take_append_drop i l).symm
  have hk : idxL Rf.name n (l.take i ++ l.drop i) = (l.take i).length := by
    refine idx_parted Rf.name (fun x hx => ?_) (fun x hx => ?_)
    · obtain ⟨j, hj, rfl⟩ := List.mem_iff_getElem.1 hx
      rw [List.length_take] at hj
      have := h1 j (by omega)
      rw [List.getD, List.getElem?_eq_getElem (show j < l.length by omega)] at this
      simpa using this
    · rw [List.head?_drop] at hx
      have hl := (List.getElem?_eq_some_iff.1 hx).1
      have := h2 hl
      rw [List.getD, hx] at this
      exact this
  rw [List.length_take, ← e] at hk
  show idxL Rf.name n l = i
  omega
theorem rhas_bound {l : List Rf} {n : ByteArray} (hs : RSrt l) {i : Nat} (hi : ridx n l = i) : (rget n l).isSome = decide (i < l.length ∧ (l.getD i zeroRf).name = n) := by
  cases hg : rget n l with
  | none =>
    symm
    rw [Option.isSome_none, decide_eq_false_iff_not]
    rintro ⟨h1, h2⟩
    exact getL_none Rf.name hg _ (getD_memR h1) h2
  | some f =>
    symm
    rw [Option.isSome_some, decide_eq_true_eq]
    have h := at_some Rf.name hs hg
    have hi' : idxL Rf.name n l = i := hi
    rw [hi'] at h
    refine ⟨h.1, ?_⟩
    rw [List.getD, h.2.1]
    exact (getL_some Rf.name hg).2
set_option maxRecDepth 100000 in
set_option maxHeartbeats 3200000 in
theorem searchR_any (l : List Rf) (n : ByteArray) (v : Value) (w : World) (hs : RSrt l) (hr : rdR w v l) (hl : l.length < 4611686018427387904) :
    Calls Tryd.prog 18 #[v, .string n, .func (.func 19) #[] #[]] w fun e w' => e = .returned (.tuple #[.int .i64 (ridx n l : Nat), .bool (rget n l).isSome]) ∧ Below w.heap.size w w' := by
  have HS := Lib.hid hs
  have HR := Lib.hid hr
  obtain ⟨I, hI⟩ : ∃ I, I = ridx n l := ⟨_, rfl⟩
  obtain ⟨F, hF⟩ : ∃ F, F = (rget n l).isSome := ⟨_, rfl⟩
  have HI := Lib.hid hI
  have HF := Lib.hid hF
  rw [← hI, ← hF]
  obtain ⟨ae, ce, rfl⟩ := rd_form hr
  clear hs hr hI hF
  go_enter Tryd.func18, Tryd.ntmps18
  go_wp2_with fail
  go_loopw [9, 10] (fun s9 s10 wr => ∃ lo hi : Nat, s9 = .int .i64 (lo : Int) ∧ s10 = .int .i64 (hi : Int) ∧ lo ≤ hi ∧ hi ≤ l.length ∧ Hid ((∀ t, t < lo → lt (l.getD t zeroRf).name n) ∧ (∀ t, hi ≤ t → t < l.length → ¬ lt (l.getD t zeroRf).name n)) ∧ Hid (Below w.heap.size w wr)) (fun s9 s10 _ => (intOf s10 - intOf s9).toNat)
  case atStart => exact ⟨0, l.length, rfl, rfl, Nat.zero_le _, Nat.le_refl _, Lib.hid ⟨fun t ht => absurd ht (Nat.not_lt_zero _), fun t h1 h2 => by omega⟩, Lib.hid (Below.refl _ _)⟩
  case round =>
    obtain ⟨lo, hi, rfl, rfl, hlh, hin, INV, HB⟩ := hrel
    by_cases hlt : lo < hi
    · obtain ⟨b, off, hae, hblt, hcell⟩ := rdR_at HR.out (by omega)
      subst hae
      obtain ⟨m, hm⟩ : ∃ m, m = (lo + hi) / 2 := ⟨_, rfl⟩
      have hml : m < l.length := by omega
      obtain ⟨x, hx⟩ : ∃ x, x = l.getD m zeroRf := ⟨_, rfl⟩
      obtain ⟨d0, d1⟩ := hcell m hml
      rw [← hx] at d0 d1
      rw [← HB.out.cell (p := ⟨b, off + m * 2, none⟩) hblt] at d0
      rw [← HB.out.cell (p := ⟨b, off + m * 2 + 1, none⟩) hblt] at d1
      have HX := Lib.hid hx
      have HM := Lib.hid (show lo ≤ m ∧ m < hi from by omega)
      have hc := Lib.hid (findR1_any x n wr)
      have mi : ((lo : Int) + (hi : Int)) / 2 = (m : Int) := by omega
      have mil : (m : Int) < (l.length : Int) := by omega
      have mi0 : (0 : Int) ≤ (m : Int) := by omega
      obtain ⟨c, hcc⟩ : ∃ c, c = cmpB x.name n := ⟨_, rfl⟩
      rw [← hcc] at hc
      have HC := Lib.hid hcc
      clear hx hcell hcc hm
      by_cases hneg : c < 0
      · have hnb : decide (c < 0) = true := decide_eq_true hneg
        have HN := Lib.hid hneg
        clear hneg
        go_wp2_with fail
        (with_reducible refine hc.out.mono ?_)
        rintro e w4 ⟨rfl, hb4⟩
        have HB4 := Lib.hid (HB.out.trans (hb4.mono HB.out.size))
        clear hb4
        go_wp2_with fail
        go_roundw
        case rel => exact ⟨m + 1, hi, by first | rfl | go_num, rfl, by have := HM.out; omega, hin, Lib.hid ⟨fun t ht => by
          have hxn : lt x.name n := by rw [HC.out] at HN; exact cmpB_lt.1 HN.out
          by_cases htm : t = m
          · rw [htm, ← HX.out]; exact hxn
          · have h1 := rsrt_lt HS.out (show t < m by omega) hml
            rw [← HX.out] at h1
            exact lt_trans h1 hxn, INV.out.2⟩, HB4⟩
        case measure =>
          have := HM.out
          simp [intOf]; omega
      · have hnb : decide (c < 0) = false := decide_eq_false hneg
        have HN := Lib.hid hneg
        clear hneg
        go_wp2_with fail
        (with_reducible refine hc.out.mono ?_)
        rintro e w4 ⟨rfl, hb4⟩
        have HB4 := Lib.hid (HB.out.trans (hb4.mono HB.out.size))
        clear hb4
        go_wp2_with fail
        go_roundw
        case rel => exact ⟨lo, m, rfl, by first | rfl | go_num, HM.out.1, by have := HM.out; omega, Lib.hid ⟨INV.out.1, fun t ht htl => by
          have hxn : ¬ lt x.name n := fun k => by have h1 := cmpB_lt.2 k; have h2 := HN.out; rw [HC.out] at h2; omega
          by_cases htm : t = m
          · rw [htm, ← HX.out]; exact hxn
          · have h1 := rsrt_lt HS.out (show m < t by omega) htl
            rw [← HX.out] at h1
            exact fun k => hxn (lt_trans h1 k)⟩, HB4⟩
        case measure =>
          have := HM.out
          simp [intOf]; omega
    · obtain rfl : lo = hi := by omega
      have hfi : ridx n l = lo := ridx_bound HS.out hin INV.out.1 (INV.out.2 lo (Nat.le_refl _))
      have HFI := Lib.hid (show F = decide (lo < l.length ∧ (l.getD lo zeroRf).name = n) from HF.out.trans (rhas_bound HS.out hfi))
      have hI : I = lo := HI.out.trans hfi
      subst hI
      have hltb : decide ((I : Int) < (I : Int)) = false := by simp
      clear hfi
      by_cases hn : I < l.length
      · obtain ⟨b, off, hae, hblt, hcell⟩ := rdR_at HR.out (by omega)
        subst hae
        obtain ⟨x, hx⟩ : ∃ x, x = l.getD I zeroRf := ⟨_, rfl⟩
        obtain ⟨d0, d1⟩ := hcell I hn
        rw [← hx] at d0 d1
        rw [← HB.out.cell (p := ⟨b, off + I * 2, none⟩) hblt] at d0
        rw [← HB.out.cell (p := ⟨b, off + I * 2 + 1, none⟩) hblt] at d1
        have hc := Lib.hid (findR1_any x n wr)
        rw [← hx] at HFI
        have mil : (I : Int) < (l.length : Int) := by omega
        have milb : decide ((I : Int) < (l.length : Int)) = true := decide_eq_true mil
        have mi0 : (0 : Int) ≤ (I : Int) := by omega
        obtain ⟨c, hcc⟩ : ∃ c, c = cmpB x.name n := ⟨_, rfl⟩
        rw [← hcc] at hc
        have HF2 := Lib.hid (show F = (c == 0) from by
          rw [HFI.out, hcc]
          by_cases e : cmpB x.name n = 0
          · rw [decide_eq_true ⟨hn, cmpB_eq.1 e⟩, e]; rfl
          · rw [decide_eq_false (fun k => e (cmpB_eq.2 k.2)), beq_eq_false_iff_ne.2 e])
        clear hx hcell hcc HFI HF
        go_wp2_with fail
        (with_reducible refine hc.out.mono ?_)
        rintro e w4 ⟨rfl, hb4⟩
        have HB4 := Lib.hid (HB.out.trans (hb4.mono HB.out.size))
        clear hb4
        go_wp2_with fail
        go_ret2
        exact ⟨by rw [HF2.out]; first | rfl | simp, HB4.out⟩
      · have milb : decide ((I : Int) < (l.length : Int)) = false := decide_eq_false (by omega)
        have hF : F = false := by rw [HFI.out, decide_eq_false (fun k => hn k.1)]
        subst hF
        go_wp2_with fail
        go_ret2
        exact ⟨rfl, HB.out⟩
set_option maxRecDepth 100000 in
set_option maxHeartbeats 3200000 in
theorem findR_any (l : List Rf) (n : ByteArray) (v : Value) (w : World) (hs : RSrt l) (hr : rdR w v l) (hl : l.length < 4611686018427387904) :
    Calls Tryd.prog 11 #[v, .string n] w fun e w' => e = .returned (.tuple #[.int .i64 (ridx n l : Nat), .bool (rget n l).isSome]) ∧ Below w.heap.size w w' := by
  have HS := Lib.hid (searchR_any l n v w hs hr hl)
  clear hs hr
  go_enter Tryd.func11, Tryd.ntmps11
  go_wp2_with fail
  (with_reducible refine HS.out.mono ?_)
  rintro e w1 ⟨rfl, hb1⟩
  have HB1 := Lib.hid hb1
  clear hb1
  go_wp2_with fail
  go_ret2
  exact ⟨rfl, HB1.out⟩
set_option maxRecDepth 100000 in
set_option maxHeartbeats 3200000 in
theorem getR_any (l : List Rf) (n : ByteArray) (v : Value) (w : World) (hs : RSrt l) (hr : rdR w v l) (hl : l.length < 4611686018427387904) :
    Calls Tryd.prog 7 #[v, .string n] w fun e w' => e = .returned (.string (getR l n)) ∧ Below w.heap.size w w' := by
  have HS := Lib.hid (findR_any l n v w hs hr hl)
  obtain ⟨ae, ce, rfl⟩ := rd_form hr
  cases hg : rget n l with
  | none =>
    have HG := Lib.hid (show getR l n = nilB by unfold getR; rw [hg])
    rw [hg] at HS
    clear hs hr hg
    go_enter Tryd.func7, Tryd.ntmps7
    go_wp2_with fail
    (with_reducible refine HS.out.mono ?_)
    rintro e w1 ⟨rfl, hb1⟩
    have HB1 := Lib.hid hb1
    clear hb1 HS
    go_wp2_with fail
    go_ret
    exact ⟨by rw [HG.out]; rfl, HB1.out⟩
  | some f =>
    have HG := Lib.hid (show getR l n = f.id by unfold getR; rw [hg])
    have hat := at_some Rf.name hs hg
    obtain ⟨k, hk⟩ : ∃ k, k = ridx n l := ⟨_, rfl⟩
    have hk' : idxL Rf.name n l = k := hk.symm
    rw [hk'] at hat
    obtain ⟨b, off, hae, hblt, hcell⟩ := rdR_at hr (by omega)
    subst hae
    have d1 := (hcell k hat.1).2
    rw [show l.getD k zeroRf = f by rw [List.getD, hat.2.1]; rfl] at d1
    rw [hg, ← hk] at HS
    have hki : (k : Int) < (l.length : Int) := by omega
    have hk0 : (0 : Int) ≤ (k : Int) := by omega
    have HD := Lib.hid d1
    have hkl := hat.1
    clear hs hr hg hcell hat hk hk' d1
    go_enter Tryd.func7, Tryd.ntmps7
    go_wp2_with fail
    (with_reducible refine HS.out.mono ?_)
    rintro e w1 ⟨rfl, hb1⟩
    have HB1 := Lib.hid hb1
    have d1 := (hb1.cell (p := ⟨b, off + k * 2 + 1, none⟩) hblt).trans HD.out
    clear hb1 HS
    go_wp2_with fail
    go_ret
    exact ⟨by rw [HG.out]; rfl, HB1.out⟩
end Go.Proofs.YtnggcldpojebkaaDoor
