/- The walk of MerkleGrows. -/
import Derived.Test.YtjfahfecmhnmoaaDoorMerklePaths
namespace Go.Proofs.YtjfahfecmhnmoaaDoor
open Go.RowKit
set_option linter.unusedVariables false
set_option linter.unusedSimpArgs false

theorem wpList_append1w {P : Program} {w w0 : World} {B : Nat} {ops : Array Oper} {rest : List Oper} {o : Oper} {a : Act} {Q : Exit → Act → World → Prop} (hw : Region.wanted o (yielded ops a.tmps) = true) (s x : Operand) (t : TypeId)
    (ho : o.op = .call { callee := .builtin .append, args := #[s, x], argTypes := #[t, t] })
    {base : Nat} {e : TypeId} {z : Value} {bytes : Nat} (hinf : infoIs P e z 1 bytes) (ht : P.underlying t = some (.slice e)) (hzs : z.cells.size = 1) (hby : 0 < bytes)
    {v : Value} {n : Nat} {xs : List Value} (hown : w.ownsRow base e 1 v n xs) (hbel : Below B w0 w) (hB : B ≤ base) (hb : base ≤ w.heap.size)
    {u : Value} (h1 : u.oneCell' = true) (hbytes : (n + 1) * bytes ≤ 140737488355328)
    (hs : a.eval s = v) (hx : a.eval x = .slice (some ⟨w.heap.size, 0, none⟩) 1 1)
    (h : ∀ v' w', w'.ownsRow base e 1 v' (n + 1) (xs ++ [u]) → Below B w0 w' → wpList P ops Q rest (a.put o.dst v') w') : wpList P ops Q (o :: rest) a (w.alloc (.cells #[u] e)) :=
  wpList_yes hw fun K hK => wp_append1 s x t ho hinf ht hzs hby hown hbel hB hb h1 hbytes hs hx (fun v' w' h1 h2 => hK _ _ (h v' w' h1 h2))
theorem pick_to (i : Int) (n : Nat) (h1 : -9223372036854775808 ≤ i) (h2 : i ≤ 9223372036854775807) (hn : n ≤ 4000) :
    ∃ m : Nat, m ≤ n ∧ ∀ w' : World, Calls Tryd.prog 14 #[.int .i64 i, .int .i64 ((n : Int) + 1)] w' fun e w'' => e = .returned (.int .i64 (m : Int)) ∧ w' = w'' := by
  obtain ⟨m, hm, hmn⟩ := pick_nat i (n + 1) (by omega)
  refine ⟨m, by omega, fun w' => ?_⟩
  have h := pick_any i (n + 1) w' h1 h2 (by omega) (by omega)
  rw [hm] at h
  rw [show ((n : Int) + 1) = ((n + 1 : Nat) : Int) by omega]
  exact h
set_option maxRecDepth 100000 in
set_option maxHeartbeats 3200000 in
theorem extends_back_any (old root : ByteArray) (m n : Nat) (v : Value) (w : World) (h : n < m) :
    Calls Tryd.prog 20 #[.string old, .int .i64 (m : Int), .string root, .int .i64 (n : Int), v] w fun e w' => e = .returned (.bool false) ∧ w = w' := by
  have h0 : ¬ (m : Int) < 0 := by omega
  have h1 : (n : Int) < (m : Int) := by omega
  clear h
  go_enter Tryd.func20, Tryd.ntmps20
  go_wp2_with fail
  go_ret
  exact ⟨rfl, rfl⟩
theorem proof_small : ∀ (N : Nat) (la : List ByteArray) (m : Nat) (wh : Bool), la.length ≤ N → smalls (proofG la m wh) := by
  intro N
  induction N with
  | zero =>
    intro la m wh h
    obtain rfl : la = [] := List.eq_nil_of_length_eq_zero (by omega)
    rw [proofG]
    split
    · split
      · intro s hs; cases hs
      · intro s hs; rw [List.mem_singleton.1 hs, root32]; decide
    · rw [dif_neg (by simp)]; intro s hs; cases hs
  | succ N ih =>
    intro la m wh h
    by_cases he : m = la.length
    · rw [proofG_all _ he]
      split
      · intro s hs; cases hs
      · intro s hs; rw [List.mem_singleton.1 hs, root32]; decide
    · by_cases h2 : 2 ≤ la.length
      · have hsp := halfF_spec h2
        by_cases hk : m ≤ halfF la.length
        · rw [proofG_left _ he h2 hk]
          exact smalls_more (ih _ _ _ (by rw [List.length_take]; omega)) (by rw [root32]; decide)
        · rw [proofG_right _ he h2 hk]
          exact smalls_more (ih _ _ _ (by rw [List.length_drop]; omega)) (by rw [root32]; decide)
      · rw [proofG, if_neg he, dif_neg h2]; intro s hs; cases hs
theorem proofF_small (la : List ByteArray) (m : Nat) : smalls (proofF la m) := by
  unfold proofF
  split
  · exact proof_small _ la m true (Nat.le_refl _)
  · intro s hs; cases hs
set_option maxRecDepth 100000 in
set_option maxHeartbeats 3200000 in
theorem merkleGrows_walk {w : World} (ht : Tab w) (v0 : Value) (len0 : Nat) (z0 : List ByteArray) (f0 : rdRow w 1 v0 len0 (z0.map .string)) (g0 : ∀ s ∈ z0, s.size ≤ 140737488351232) (m0 : len0 * 16 ≤ 140737488351232) (i : Int) (hi : -9223372036854775808 ≤ i ∧ i ≤ 9223372036854775807) :
    Calls Tryd.prog 6 #[v0, .int .i64 i] w fun e w' => e = .returned (.bool true) ∧ Below w.heap.size w w' := by
  obtain ⟨hr, hs, hm⟩ := rdS_in f0 g0 m0
  have HF := Lib.hid (few_any z0 v0 w hr)
  obtain ⟨la, hla⟩ : ∃ la, la = z0.take 130 := ⟨_, rfl⟩
  have hl130 : la.length ≤ 130 := by rw [hla, List.length_take]; omega
  have hsm : smalls la := by rw [hla]; exact smalls_take hs 130
  rw [← hla] at HF
  have HT := Lib.hid ht
  have HS := Lib.hid hsm
  obtain ⟨hi1, hi2⟩ := hi
  clear ht hr hs hm f0 g0 m0 hla hsm
  go_enter Tryd.func6, Tryd.ntmps6
  go_wp2_with fail
  (with_reducible refine HF.out.mono ?_)
  rintro e w1 ⟨v1, rfl, hown, hb⟩
  have hr1 := rdS_owns hown
  have HW1 := Lib.hid hb
  have HL1 := Lib.hid hb
  have HT1 := Lib.hid (HT.out.below hb)
  have HB1 := Lib.hid (Below.refl w1.heap.size w1)
  have HR1 := Lib.hid hr1
  have HOWN := Lib.hid hown
  clear hb hown HF HT HOWN
  obtain ⟨m, hml, hpi⟩ := pick_to i la.length hi1 hi2 (by omega)
  have HPI := Lib.hid hpi
  obtain ⟨v2, e2, r2⟩ := rdS_to hr1 m hml
  have E2 := Lib.hid e2
  have R2 := Lib.hid r2
  obtain ⟨ao, cap, rfl⟩ := rdS_form hr1
  have HPR := Lib.hid (fun w' (hb : Below w1.heap.size w1 w') => proof_any la _ m w' hl130 hml (HR1.out.below hb) HS.out (HT1.out.below hb))
  have HRM := Lib.hid (fun w' (hb : Below w1.heap.size w1 w') => root_any 130 (la.take m) _ w' (by rw [List.length_take]; omega) (by omega) (R2.out.below hb) (smalls_take HS.out m) (HT1.out.below hb))
  have HRO := Lib.hid (fun w' (hb : Below w1.heap.size w1 w') => root_any 130 la _ w' hl130 (by omega) (HR1.out.below hb) HS.out (HT1.out.below hb))
  obtain ⟨q, hq⟩ : ∃ q, q = proofF la m := ⟨_, rfl⟩
  obtain ⟨old, hold⟩ : ∃ r, r = rootF (la.take m) := ⟨_, rfl⟩
  obtain ⟨rt, hrt⟩ : ∃ r, r = rootF la := ⟨_, rfl⟩
  have hx1 : extF old m rt la.length q = true := by rw [hold, hrt, hq]; exact ext_proof hml (by omega)
  have hx2 : m ≠ 0 → extF old m rt la.length (q ++ [old]) = false := fun h => by rw [hold, hrt, hq]; exact ext_more _ h hml
  have HX1 := Lib.hid hx1
  have HX2 := Lib.hid hx2
  have hq9 : q.length ≤ 9 := by rw [hq]; exact proofF_length hl130
  have hq9i : (q.length : Int) ≤ 9 := by omega
  have HQS := Lib.hid (show smalls q by rw [hq]; exact proofF_small la m)
  have HOS := Lib.hid (show old.size ≤ 140737488355328 by rw [hold, root32]; decide)
  rw [← hq] at HPR
  rw [← hold] at HRM
  rw [← hrt] at HRO
  have HML := Lib.hid hml
  obtain ⟨n, hn⟩ : ∃ n, n = la.length := ⟨_, rfl⟩
  rw [← hn] at hl130 HML HX1 HX2 HPI HRO HPR ⊢
  clear hr1 hi1 hi2 hpi e2 r2 hx1 hx2 hq hold hrt hml hn HR1
  go_wp2_with fail
  (with_reducible refine (HPI.out _).mono ?_)
  rintro e w0 ⟨rfl, rfl⟩
  go_wp2_with fail
  (with_reducible refine (HPR.out _ HB1.out).mono ?_)
  rintro e w2 ⟨pv, rfl, hown, hb⟩
  have HB2 := Lib.hid (HB1.out.trans (hb.mono HB1.out.size))
  have HL2 := Lib.hid hb
  have HO2 := Lib.hid (owns_base hown HB1.out.size)
  clear hb hown
  have hrp := rdS_owns HO2.out
  obtain ⟨pao, pcap, hpv⟩ := rdS_form hrp
  have HPV := Lib.hid hrp
  subst hpv
  clear hrp
  go_wp2_with (first | (refine wpList_slice (by rfl) 22 (.tmp 18) none (some (.tmp 19)) rfl (v' := v2) E2.out ?_))
  (with_reducible refine (HRM.out _ HB2.out).mono ?_)
  rintro e w3 ⟨rfl, hb⟩
  have HB3 := Lib.hid (HB2.out.trans (hb.mono HB2.out.size))
  have HL3 := Lib.hid hb
  clear hb
  go_wp2_with fail
  (with_reducible refine (HRO.out _ HB3.out).mono ?_)
  rintro e w4 ⟨rfl, hb⟩
  have HB4 := Lib.hid (HB3.out.trans (hb.mono HB3.out.size))
  have HL4 := Lib.hid hb
  clear hb
  have HO4 := Lib.hid (owns_below (owns_below HO2.out HL3.out) HL4.out)
  go_wp2_with fail
  (with_reducible refine (extends_any old rt m n q _ _ HOS.out (rdS_owns HO4.out) HQS.out (HT1.out.below HB4.out)).mono ?_)
  rintro e w5 ⟨rfl, hb⟩
  rw [HX1.out]
  have HB5 := Lib.hid (HB4.out.trans (hb.mono HB4.out.size))
  have HL5 := Lib.hid hb
  clear hb
  have HO5 := Lib.hid (owns_below HO4.out HL5.out)
  by_cases h0 : m = 0
  · by_cases h1 : m = n
    · have hz : ((m : Int) == 0) = true := by simp; omega
      have hn : ((m : Int) == (n : Int)) = true := by simp; omega
      clear h0 h1
      go_wp2_with fail
      (with_reducible refine (roots_any _ (HT1.out.below HB5.out)).mono ?_)
      rintro e w7 ⟨rfl, hb⟩
      have HB7 := Lib.hid (HB5.out.trans (hb.mono HB5.out.size))
      have HL7 := Lib.hid hb
      clear hb
      go_wp2_with fail
      go_ret
      exact ⟨rfl, HW1.out.trans (HB7.out.mono HW1.out.size)⟩
    · have hz : ((m : Int) == 0) = true := by simp; omega
      have hn : ((m : Int) == (n : Int)) = false := by simp; omega
      have hlt := HML.out
      have HLT := Lib.hid (show m < n by omega)
      clear h0 h1
      clear hlt
      go_wp2_with fail
      (with_reducible refine (extends_back_any rt old n m _ _ HLT.out).mono ?_)
      rintro e w0 ⟨rfl, rfl⟩
      go_wp2_with fail
      (with_reducible refine (roots_any _ (HT1.out.below HB5.out)).mono ?_)
      rintro e w7 ⟨rfl, hb⟩
      have HB7 := Lib.hid (HB5.out.trans (hb.mono HB5.out.size))
      have HL7 := Lib.hid hb
      clear hb
      go_wp2_with fail
      go_ret
      exact ⟨rfl, HW1.out.trans (HB7.out.mono HW1.out.size)⟩
  · by_cases h1 : m = n
    · have hz : ((m : Int) == 0) = false := by simp; omega
      have hx2 := Lib.hid (HX2.out h0)
      have hn : ((m : Int) == (n : Int)) = true := by simp; omega
      clear h0 h1
      go_wp2_with (first | (refine wpList_append1w (by rfl) (.tmp 45) (.tmp 47) 22 rfl info_string Tryd.underlying22 rfl (by decide) HO5.out HB5.out (Nat.le_refl _) HB5.out.size rfl (by omega) rfl rfl ?_; intro v9 w9 hown' hB'; have HB9 := Lib.hid hB'; have HO9 := Lib.hid (show w9.ownsRow w1.heap.size 9 1 v9 (q ++ [old]).length (svs (q ++ [old])) by rw [List.length_append, svs_append]; exact hown'); clear hown' hB'))
      (with_reducible refine (extends_any old rt m n (q ++ [old]) _ _ HOS.out (rdS_owns HO9.out) (smalls_more HQS.out HOS.out) (HT1.out.below HB9.out)).mono ?_)
      rintro e w6 ⟨rfl, hb⟩
      rw [hx2.out]
      have HB6 := Lib.hid (HB9.out.trans (hb.mono HB9.out.size))
      have HL6 := Lib.hid hb
      clear hb
      go_wp2_with fail
      (with_reducible refine (roots_any _ (HT1.out.below HB6.out)).mono ?_)
      rintro e w7 ⟨rfl, hb⟩
      have HB7 := Lib.hid (HB6.out.trans (hb.mono HB6.out.size))
      have HL7 := Lib.hid hb
      clear hb
      go_wp2_with fail
      go_ret
      exact ⟨rfl, HW1.out.trans (HB7.out.mono HW1.out.size)⟩
    · have hz : ((m : Int) == 0) = false := by simp; omega
      have hx2 := Lib.hid (HX2.out h0)
      have hn : ((m : Int) == (n : Int)) = false := by simp; omega
      have hlt := HML.out
      have HLT := Lib.hid (show m < n by omega)
      clear h0 h1
      clear hlt
      go_wp2_with (first | (refine wpList_append1w (by rfl) (.tmp 45) (.tmp 47) 22 rfl info_string Tryd.underlying22 rfl (by decide) HO5.out HB5.out (Nat.le_refl _) HB5.out.size rfl (by omega) rfl rfl ?_; intro v9 w9 hown' hB'; have HB9 := Lib.hid hB'; have HO9 := Lib.hid (show w9.ownsRow w1.heap.size 9 1 v9 (q ++ [old]).length (svs (q ++ [old])) by rw [List.length_append, svs_append]; exact hown'); clear hown' hB'))
      (with_reducible refine (extends_any old rt m n (q ++ [old]) _ _ HOS.out (rdS_owns HO9.out) (smalls_more HQS.out HOS.out) (HT1.out.below HB9.out)).mono ?_)
      rintro e w6 ⟨rfl, hb⟩
      rw [hx2.out]
      have HB6 := Lib.hid (HB9.out.trans (hb.mono HB9.out.size))
      have HL6 := Lib.hid hb
      clear hb
      go_wp2_with fail
      (with_reducible refine (extends_back_any rt old n m _ _ HLT.out).mono ?_)
      rintro e w0 ⟨rfl, rfl⟩
      go_wp2_with fail
      (with_reducible refine (roots_any _ (HT1.out.below HB6.out)).mono ?_)
      rintro e w7 ⟨rfl, hb⟩
      have HB7 := Lib.hid (HB6.out.trans (hb.mono HB6.out.size))
      have HL7 := Lib.hid hb
      clear hb
      go_wp2_with fail
      go_ret
      exact ⟨rfl, HW1.out.trans (HB7.out.mono HW1.out.size)⟩
end Go.Proofs.YtjfahfecmhnmoaaDoor
