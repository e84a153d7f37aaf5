/- The walks of strings.Compare, slices.BinarySearchFunc at files, and package disk's find. -/
import Derived.Test.YtnggcldpojebkaaDisk1
import Derived.Laws.Externs
namespace Go.Proofs.Ytnggcldpojebkaa
open Go.RowKit
set_option linter.unusedVariables false
set_option linter.unusedSimpArgs false

def cmpB (a b : ByteArray) : Int := Lib.compareBytes a.data.toList b.data.toList
theorem cmpB_lt {a b : ByteArray} : cmpB a b < 0 ↔ lt a b := by
  unfold cmpB
  rw [cmp_lt]
  by_cases h : lt a b
  · simp [h]
  · by_cases e : a = b <;> simp [h, e, lt_irr]
theorem cmpB_eq {a b : ByteArray} : cmpB a b = 0 ↔ a = b := by
  unfold cmpB
  rw [cmp_lt]
  by_cases h : lt a b
  · simp [h, lt_ne h]
  · by_cases e : a = b <;> simp [h, e, lt_irr]
set_option maxRecDepth 100000 in
set_option maxHeartbeats 3200000 in
theorem compareS_any (a b : ByteArray) (w : World) : Calls Try.prog 54 #[.string a, .string b] w fun e w' => e = .returned (.int .i64 (cmpB a b)) ∧ w' = w := by
  go_enter Try.func54, Try.ntmps54
  go_wp2
  rw [run_callFunc_extern Try.func57 (by kernel_rfl) (by kernel_rfl) (by kernel_rfl) (e := Extern.BytealgCompare.compare) (by kernel_rfl), Lib.run_compareString]
  simp only [Result.andThen]
  rw [Oper.upon_value]
  go_wp2
  go_ret
  exact ⟨rfl, rfl⟩
set_option maxRecDepth 100000 in
set_option maxHeartbeats 3200000 in
theorem compare_any (a b : ByteArray) (w : World) : Calls Try.prog 49 #[.string a, .string b] w fun e w' => e = .returned (.int .i64 (cmpB a b)) ∧ w' = w := by
  go_enter Try.func49, Try.ntmps49
  go_wp2_with fail
  (with_reducible refine (compareS_any a b w).mono ?_)
  rintro e w' ⟨rfl, rfl⟩
  go_wp2_with fail
  go_ret
  exact ⟨rfl, rfl⟩
set_option maxRecDepth 100000 in
set_option maxHeartbeats 3200000 in
theorem findC_any (f : Fil) (n : ByteArray) (w : World) : Calls Try.prog 48 #[.agg #[.string f.name, .string f.safe, .string f.tail], .string n] w fun e w' => e = .returned (.int .i64 (cmpB f.name n)) ∧ Below w.heap.size w w' := by
  have HB := Lib.hid ((Below.refl w.heap.size w).alloc (Nat.le_refl _) (.cells #[.string f.name, .string f.safe, .string f.tail] 60))
  go_enter Try.func48, Try.ntmps48
  go_wp2_with fail
  (with_reducible refine (compare_any f.name n _).mono ?_)
  rintro e w' ⟨rfl, rfl⟩
  go_wp2_with fail
  go_ret
  exact ⟨rfl, HB.out⟩

theorem getD_mem {l : List Fil} {k : Nat} (h : k < l.length) : l.getD k zeroFil ∈ l := by rw [List.getD, List.getElem?_eq_getElem h]; exact List.getElem_mem h
theorem srt_lt {l : List Fil} (h : FSrt l) {i j : Nat} (hi : i < j) (hj : j < l.length) : lt (l.getD i zeroFil).name (l.getD j zeroFil).name := by
  have := List.pairwise_iff_getElem.1 h i j (by omega) hj hi
  rw [List.getD, List.getD, List.getElem?_eq_getElem hj, List.getElem?_eq_getElem (show i < l.length by omega)]
  exact this
theorem idx_bound {l : List Fil} {n : ByteArray} (hs : FSrt l) {i : Nat} (hi : i ≤ l.length) (h1 : ∀ t, t < i → lt (l.getD t zeroFil).name n) (h2 : i < l.length → ¬ lt (l.getD i zeroFil).name n) : fidx n l = i := by
  have e : l = l.take i ++ l.drop i := (List.take_append_drop i l).symm
  have hk : idxL Fil.name n (l.take i ++ l.drop i) = (l.take i).length := by
    refine idx_parted Fil.name (fun x hx => ?_) (fun x hx => ?_)
    · obtain ⟨j, hj, rfl⟩ := List.mem_iff_getElem.1 hx
      rw [List.length_take] at hj
      have := h1 j (by omega)
      rw [List.getD, List.getElem?_eq_getElem (show j < l.length by omega)] at this
      simpa using this
    · rw [List.head?_drop] at hx
      have hl := (List.getElem?_eq_some_iff.1 hx).1
      have := h2 hl
      rw [List.getD, hx] at this
      exact this
  rw [List.length_take, ← e] at hk
  show idxL Fil.name n l = i
  omega
theorem has_bound {l : List Fil} {n : ByteArray} (hs : FSrt l) {i : Nat} (hi : fidx n l = i) : (fget n l).isSome = decide (i < l.length ∧ (l.getD i zeroFil).name = n) := by
  cases hg : fget n l with
  | none =>
    symm
    rw [Option.isSome_none, decide_eq_false_iff_not]
    rintro ⟨h1, h2⟩
    exact getL_none Fil.name hg _ (getD_mem h1) h2
  | some f =>
    symm
    rw [Option.isSome_some, decide_eq_true_eq]
    have h := at_some Fil.name hs hg
    have hi' : idxL Fil.name n l = i := hi
    rw [hi'] at h
    refine ⟨h.1, ?_⟩
    rw [List.getD, h.2.1]
    exact (getL_some Fil.name hg).2
set_option maxRecDepth 100000 in
set_option maxHeartbeats 3200000 in
theorem search_any (l : List Fil) (n : ByteArray) (v : Value) (w : World) (hs : FSrt l) (hr : rdF w v l) (hl : l.length < 4611686018427387904) :
    Calls Try.prog 47 #[v, .string n, .func (.func 48) #[] #[]] w fun e w' => e = .returned (.tuple #[.int .i64 (fidx n l : Nat), .bool (fget n l).isSome]) ∧ Below w.heap.size w w' := by
  have HS := Lib.hid hs
  have HR := Lib.hid hr
  obtain ⟨I, hI⟩ : ∃ I, I = fidx n l := ⟨_, rfl⟩
  obtain ⟨F, hF⟩ : ∃ F, F = (fget n l).isSome := ⟨_, rfl⟩
  have HI := Lib.hid hI
  have HF := Lib.hid hF
  rw [← hI, ← hF]
  obtain ⟨ae, ce, rfl⟩ := rd_form hr
  clear hs hr hI hF
  go_enter Try.func47, Try.ntmps47
  go_wp2_with fail
  go_loopw [9, 10] (fun s9 s10 wr => ∃ lo hi : Nat, s9 = .int .i64 (lo : Int) ∧ s10 = .int .i64 (hi : Int) ∧ lo ≤ hi ∧ hi ≤ l.length ∧ Hid ((∀ t, t < lo → lt (l.getD t zeroFil).name n) ∧ (∀ t, hi ≤ t → t < l.length → ¬ lt (l.getD t zeroFil).name n)) ∧ Hid (Below w.heap.size w wr)) (fun s9 s10 _ => (intOf s10 - intOf s9).toNat)
  case atStart => exact ⟨0, l.length, rfl, rfl, Nat.zero_le _, Nat.le_refl _, Lib.hid ⟨fun t ht => absurd ht (Nat.not_lt_zero _), fun t h1 h2 => by omega⟩, Lib.hid (Below.refl _ _)⟩
  case round =>
    obtain ⟨lo, hi, rfl, rfl, hlh, hin, INV, HB⟩ := hrel
    by_cases hlt : lo < hi
    · obtain ⟨b, off, hae, hblt, hcell⟩ := rdF_at HR.out (by omega)
      subst hae
      obtain ⟨m, hm⟩ : ∃ m, m = (lo + hi) / 2 := ⟨_, rfl⟩
      have hml : m < l.length := by omega
      obtain ⟨x, hx⟩ : ∃ x, x = l.getD m zeroFil := ⟨_, rfl⟩
      obtain ⟨d0, d1, d2⟩ := hcell m hml
      rw [← hx] at d0 d1 d2
      rw [← HB.out.cell (p := ⟨b, off + m * 3, none⟩) hblt] at d0
      rw [← HB.out.cell (p := ⟨b, off + m * 3 + 1, none⟩) hblt] at d1
      rw [← HB.out.cell (p := ⟨b, off + m * 3 + 2, none⟩) hblt] at d2
      have HX := Lib.hid hx
      have HM := Lib.hid (show lo ≤ m ∧ m < hi from by omega)
      have hc := Lib.hid (findC_any x n wr)
      have mi : ((lo : Int) + (hi : Int)) / 2 = (m : Int) := by omega
      have mil : (m : Int) < (l.length : Int) := by omega
      have mi0 : (0 : Int) ≤ (m : Int) := by omega
      obtain ⟨c, hcc⟩ : ∃ c, c = cmpB x.name n := ⟨_, rfl⟩
      rw [← hcc] at hc
      have HC := Lib.hid hcc
      clear hx hcell hcc hm
      by_cases hneg : c < 0
      · have hnb : decide (c < 0) = true := decide_eq_true hneg
        have HN := Lib.hid hneg
        clear hneg
        go_wp2_with fail
        (with_reducible refine hc.out.mono ?_)
        rintro e w4 ⟨rfl, hb4⟩
        have HB4 := Lib.hid (HB.out.trans (hb4.mono HB.out.size))
        clear hb4
        go_wp2_with fail
        go_roundw
        case rel => exact ⟨m + 1, hi, by first | rfl | go_num, rfl, by have := HM.out; omega, hin, Lib.hid ⟨fun t ht => by
          have hxn : lt x.name n := by rw [HC.out] at HN; exact cmpB_lt.1 HN.out
          by_cases htm : t = m
          · rw [htm, ← HX.out]; exact hxn
          · have h1 := srt_lt HS.out (show t < m by omega) hml
            rw [← HX.out] at h1
            exact lt_trans h1 hxn, INV.out.2⟩, HB4⟩
        case measure =>
          have := HM.out
          simp [intOf]; omega
      · have hnb : decide (c < 0) = false := decide_eq_false hneg
        have HN := Lib.hid hneg
        clear hneg
        go_wp2_with fail
        (with_reducible refine hc.out.mono ?_)
        rintro e w4 ⟨rfl, hb4⟩
        have HB4 := Lib.hid (HB.out.trans (hb4.mono HB.out.size))
        clear hb4
        go_wp2_with fail
        go_roundw
        case rel => exact ⟨lo, m, rfl, by first | rfl | go_num, HM.out.1, by have := HM.out; omega, Lib.hid ⟨INV.out.1, fun t ht htl => by
          have hxn : ¬ lt x.name n := fun k => by have h1 := cmpB_lt.2 k; have h2 := HN.out; rw [HC.out] at h2; omega
          by_cases htm : t = m
          · rw [htm, ← HX.out]; exact hxn
          · have h1 := srt_lt HS.out (show m < t by omega) htl
            rw [← HX.out] at h1
            exact fun k => hxn (lt_trans h1 k)⟩, HB4⟩
        case measure =>
          have := HM.out
          simp [intOf]; omega
    · obtain rfl : lo = hi := by omega
      have hfi : fidx n l = lo := idx_bound HS.out hin INV.out.1 (INV.out.2 lo (Nat.le_refl _))
      have HFI := Lib.hid (show F = decide (lo < l.length ∧ (l.getD lo zeroFil).name = n) from HF.out.trans (has_bound HS.out hfi))
      have hI : I = lo := HI.out.trans hfi
      subst hI
      have hltb : decide ((I : Int) < (I : Int)) = false := by simp
      clear hfi
      by_cases hn : I < l.length
      · obtain ⟨b, off, hae, hblt, hcell⟩ := rdF_at HR.out (by omega)
        subst hae
        obtain ⟨x, hx⟩ : ∃ x, x = l.getD I zeroFil := ⟨_, rfl⟩
        obtain ⟨d0, d1, d2⟩ := hcell I hn
        rw [← hx] at d0 d1 d2
        rw [← HB.out.cell (p := ⟨b, off + I * 3, none⟩) hblt] at d0
        rw [← HB.out.cell (p := ⟨b, off + I * 3 + 1, none⟩) hblt] at d1
        rw [← HB.out.cell (p := ⟨b, off + I * 3 + 2, none⟩) hblt] at d2
        have hc := Lib.hid (findC_any x n wr)
        rw [← hx] at HFI
        have mil : (I : Int) < (l.length : Int) := by omega
        have milb : decide ((I : Int) < (l.length : Int)) = true := decide_eq_true mil
        have mi0 : (0 : Int) ≤ (I : Int) := by omega
        obtain ⟨c, hcc⟩ : ∃ c, c = cmpB x.name n := ⟨_, rfl⟩
        rw [← hcc] at hc
        have HF2 := Lib.hid (show F = (c == 0) from by
          rw [HFI.out, hcc]
          by_cases e : cmpB x.name n = 0
          · rw [decide_eq_true ⟨hn, cmpB_eq.1 e⟩, e]; rfl
          · rw [decide_eq_false (fun k => e (cmpB_eq.2 k.2)), beq_eq_false_iff_ne.2 e])
        clear hx hcell hcc HFI HF
        go_wp2_with fail
        (with_reducible refine hc.out.mono ?_)
        rintro e w4 ⟨rfl, hb4⟩
        have HB4 := Lib.hid (HB.out.trans (hb4.mono HB.out.size))
        clear hb4
        go_wp2_with fail
        go_ret2
        exact ⟨by rw [HF2.out]; first | rfl | simp, HB4.out⟩
      · have milb : decide ((I : Int) < (l.length : Int)) = false := decide_eq_false (by omega)
        have hF : F = false := by rw [HFI.out, decide_eq_false (fun k => hn k.1)]
        subst hF
        go_wp2_with fail
        go_ret2
        exact ⟨rfl, HB.out⟩
set_option maxRecDepth 100000 in
set_option maxHeartbeats 3200000 in
theorem find_any (l : List Fil) (n : ByteArray) (v : Value) (fu : Int) (w : World) (hs : FSrt l) (hr : rdF w v l) (hl : l.length < 4611686018427387904) :
    Calls Try.prog 36 #[.agg #[v, .int .i64 fu], .string n] w fun e w' => e = .returned (.tuple #[.int .i64 (fidx n l : Nat), .bool (fget n l).isSome]) ∧ Below w.heap.size w w' := by
  have hb := (Below.refl w.heap.size w).alloc (Nat.le_refl _) (.cells #[v, .int .i64 fu] 30)
  have HB := Lib.hid hb
  have HS := Lib.hid (search_any l n v _ hs (hr.below hb) hl)
  have h0 : (w.alloc (.cells #[v, .int .i64 fu] 30)).cell? ⟨w.heap.size, 0, none⟩ = some v := cell_block 0 _ rfl
  clear hb hs hr
  go_enter Try.func36, Try.ntmps36
  go_wp2_with fail
  (with_reducible refine HS.out.mono ?_)
  rintro e w1 ⟨rfl, hb1⟩
  have HB1 := Lib.hid (HB.out.trans (hb1.mono HB.out.size))
  clear hb1
  go_wp2_with fail
  go_ret2
  exact ⟨rfl, HB1.out⟩
end Go.Proofs.Ytnggcldpojebkaa
