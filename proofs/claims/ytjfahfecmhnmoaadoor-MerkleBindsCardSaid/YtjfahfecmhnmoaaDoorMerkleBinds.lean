/- The walk of MerkleBinds. -/
import Derived.Test.YtjfahfecmhnmoaaDoorMerklePaths
import Derived.Test.YtjfahfecmhnmoaaDoorMerkle8
namespace Go.Proofs.YtjfahfecmhnmoaaDoor
open Go.RowKit
set_option linter.unusedVariables false
set_option linter.unusedSimpArgs false

set_option maxRecDepth 100000 in
set_option maxHeartbeats 3200000 in
theorem merkleBinds_walk {w : World} (ht : Tab w) (v0 : Value) (len0 : Nat) (z0 : List ByteArray) (f0 : rdRow w 1 v0 len0 (z0.map .string)) (g0 : ∀ s ∈ z0, s.size ≤ 140737488351232) (m0 : len0 * 16 ≤ 140737488351232) (i : Int) (hi : -9223372036854775808 ≤ i ∧ i ≤ 9223372036854775807) (s : ByteArray) (hss : s.size ≤ 140737488351232) (v3 : Value) (len3 : Nat) (z3 : List ByteArray) (f3 : rdRow w 1 v3 len3 (z3.map .string)) (g3 : ∀ s ∈ z3, s.size ≤ 140737488351232) (m3 : len3 * 16 ≤ 140737488351232) :
    Calls Tryd.prog 4 #[v0, .int .i64 i, .string s, v3] w fun e w' => e = .returned (.bool true) ∧ Below w.heap.size w w' := by
  obtain ⟨hr, hs, hm⟩ := rdS_in f0 g0 m0
  have HF := Lib.hid (few_any z0 v0 w hr)
  obtain ⟨la, hla⟩ : ∃ la, la = z0.take 130 := ⟨_, rfl⟩
  have hl130 : la.length ≤ 130 := by rw [hla, List.length_take]; omega
  have hsm : smalls la := by rw [hla]; exact smalls_take hs 130
  rw [← hla] at HF
  have HT := Lib.hid ht
  have HS := Lib.hid hsm
  obtain ⟨hr3, hs3, hm3⟩ := rdS_in f3 g3 m3
  have HM3 := Lib.hid hm3
  have HS3 := Lib.hid hs3
  obtain ⟨hi1, hi2⟩ := hi
  clear ht hr hs hm f0 g0 m0 hla hsm f3 g3 m3 hm3 hs3
  go_enter Tryd.func4, Tryd.ntmps4
  go_wp2_with fail
  (with_reducible refine HF.out.mono ?_)
  rintro e w1 ⟨v1, rfl, hown, hb⟩
  have hr1 := rdS_owns hown
  have HW1 := Lib.hid hb
  have HL1 := Lib.hid hb
  have HT1 := Lib.hid (HT.out.below hb)
  have HB1 := Lib.hid (Below.refl w1.heap.size w1)
  have HR1 := Lib.hid hr1
  have HOWN := Lib.hid hown
  have HR3 := Lib.hid (hr3.below hb)
  clear hb hown HF HT hr3
  by_cases h0 : la.length = 0
  · have hla : la = [] := List.eq_nil_of_length_eq_zero h0
    subst hla
    obtain ⟨ao, cap, rfl⟩ := rdS_form hr1
    clear hr1 h0
    go_wp2_with fail
    (with_reducible refine (roots_any _ (HT1.out.below HB1.out)).mono ?_)
    rintro e w2 ⟨rfl, hb⟩
    have HB2 := Lib.hid (HB1.out.trans (hb.mono HB1.out.size))
    have HL2 := Lib.hid hb
    clear hb
    go_wp2_with fail
    go_ret
    exact ⟨rfl, HW1.out.trans (HB2.out.mono HW1.out.size)⟩
  · obtain ⟨b, off, cap, rfl, hbl, hall⟩ := rdS_all hr1 (by omega)
    obtain ⟨j, hj, hjn⟩ := pick_nat i la.length (by omega)
    obtain ⟨x, hx⟩ : ∃ x, x = la.getD j ⟨#[]⟩ := ⟨_, rfl⟩
    have hcx := hall j hjn
    rw [← hx] at hcx
    have HC := Lib.hid (And.intro hcx hbl)
    have hsz : s.size ≤ 140737488355328 := by omega
    have HRO := Lib.hid (fun w' (hb : Below w1.heap.size w1 w') => root_any 130 la _ w' hl130 (by omega) (HR1.out.below hb) HS.out (HT1.out.below hb))
    have HTO := Lib.hid (fun vp w' (hb : Below w1.heap.size w1 w') (hp : rdS w' vp z3) => told_any s hsz 130 la j z3 _ vp w' hl130 (Nat.le_refl _) hjn (HR1.out.below hb) HS.out hp HS3.out (HT1.out.below hb))
    obtain ⟨rt, hrt⟩ : ∃ r, r = rootF la := ⟨_, rfl⟩
    rw [← hrt] at HRO
    obtain ⟨c, hc⟩ : ∃ c, c = checkF rt (la.length : Int) (j : Int) s z3 := ⟨_, rfl⟩
    have HCK := Lib.hid (fun w' (hb : Below w1.heap.size w1 w') => check_any rt (la.length : Int) (j : Int) s z3 v3 w' hsz (HR3.out.below hb) HS3.out (HT1.out.below hb))
    rw [← hc] at HCK
    have HLAW := Lib.hid (show c = true → s ≠ x → (toldF la j s z3).2 = true from fun h1 h2 => by
      rw [hc, checkF_ok (by omega) (by omega) hjn, Bool.and_eq_true, decide_eq_true_eq] at h1
      exact told_law s la.length la j z3 rfl hjn (by rw [← hx]; exact h2) h1.1 (h1.2.trans hrt))
    obtain ⟨u, hu⟩ : ∃ u, u = toldF la j s z3 := ⟨_, rfl⟩
    rw [← hu] at HTO HLAW
    obtain ⟨n, hn⟩ : ∃ n, n = la.length := ⟨_, rfl⟩
    rw [← hn] at hl130 hjn hj HRO HCK HTO ⊢
    have HPI := Lib.hid (fun w' => pick_any i n w' hi1 hi2 (by omega) (by omega))
    rw [hj] at HPI
    have hn0 : ((n : Int) == 0) = false := by simp; omega
    have hjn2 : (j : Int) < (n : Int) := by omega
    clear hr1 h0 hall hcx hrt hx hj hn HR1 HOWN hi1 hi2 hc hu
    go_wp2_with fail
    (with_reducible refine (roots_any _ (HT1.out.below HB1.out)).mono ?_)
    rintro e w2 ⟨rfl, hb⟩
    have HB2 := Lib.hid (HB1.out.trans (hb.mono HB1.out.size))
    have HL2 := Lib.hid hb
    clear hb
    go_wp2_with fail
    (with_reducible refine (HPI.out _).mono ?_)
    rintro e w0 ⟨rfl, rfl⟩
    go_wp2_with fail
    (with_reducible refine (HRO.out _ HB2.out).mono ?_)
    rintro e w3 ⟨rfl, hb⟩
    have HB3 := Lib.hid (HB2.out.trans (hb.mono HB2.out.size))
    have HL3 := Lib.hid hb
    clear hb
    go_wp2_with fail
    (with_reducible refine (HCK.out _ HB3.out).mono ?_)
    rintro e w4 ⟨rfl, hb⟩
    have HB4 := Lib.hid (HB3.out.trans (hb.mono HB3.out.size))
    have HL4 := Lib.hid hb
    clear hb
    have hc4 : w4.cell? ⟨b, off + j, none⟩ = some (.string x) := by rw [← HC.out.1]; exact HB4.out.cell (p := ⟨b, off + j, none⟩) HC.out.2
    cases c with
    | false =>
      go_wp2_with fail
      go_ret
      exact ⟨rfl, HW1.out.trans (HB4.out.mono HW1.out.size)⟩
    | true =>
      by_cases hsx : s = x
      · subst hsx
        have hoo := beq_yes s
        go_wp2_with fail
        go_ret
        exact ⟨rfl, HW1.out.trans (HB4.out.mono HW1.out.size)⟩
      · have hoo := beq_no hsx
        have hmet := HLAW.out rfl hsx
        have HMET := Lib.hid hmet
        clear hmet
        have R4 := Lib.hid (HR3.out.below HB4.out)
        clear hsx
        go_wp2_with (first | (at_builtin; refine wpList_append_rd (w0 := w1) (B := w1.heap.size) rfl _ (.tmp 46) 22 rfl info_string Tryd.underlying22 rfl (by decide) (by decide) (World.ownsRow_nil w4 w1.heap.size 9 1) HB4.out (Nat.le_refl _) HB4.out.size R4.out (svs_one _) (by have := HM3.out; omega) rfl rfl ?_; intro pv w5 hown' hB'; have HB5 := Lib.hid hB'; have HP5 := Lib.hid (rdS_owns (B := w1.heap.size) (ss := z3) (v := pv) (by simpa using hown')); clear hB' hown'))
        (with_reducible refine (HTO.out _ _ HB5.out HP5.out).mono ?_)
        rintro e w6 ⟨rfl, hb⟩
        have HB6 := Lib.hid (HB5.out.trans (hb.mono HB5.out.size))
        have HL6 := Lib.hid hb
        clear hb
        obtain ⟨r, met⟩ := u
        have hmet := HMET.out
        dsimp only at hmet
        subst hmet
        go_wp2_with fail
        go_ret
        exact ⟨rfl, HW1.out.trans (HB6.out.mono HW1.out.size)⟩
end Go.Proofs.YtjfahfecmhnmoaaDoor
