/- The walk of MerklePaths. -/
import Derived.Test.YtjfahfecmhnmoaaDoorMerkle6
import Derived.Test.YtjfahfecmhnmoaaDoorRegion3
namespace Go.Proofs.YtjfahfecmhnmoaaDoor
open Go.RowKit
set_option linter.unusedVariables false
set_option linter.unusedSimpArgs false

theorem smalls_more {q : List ByteArray} {x : ByteArray} (h : smalls q) (hx : x.size ≤ 140737488355328) : smalls (q ++ [x]) := by
  intro s hs
  rcases List.mem_append.1 hs with h' | h'
  · exact h s h'
  · rw [List.mem_singleton.1 h']; exact hx
theorem path_small : ∀ (N : Nat) (la : List ByteArray) (j : Nat), la.length ≤ N → smalls (pathF la j)
  | 0, la, j, h => by rw [pathF_none (by omega)]; intro s hs; cases hs
  | N + 1, la, j, h => by
    by_cases h2 : 2 ≤ la.length ∧ j < la.length
    · have hsp := halfF_spec h2.1
      by_cases hk : j < halfF la.length
      · rw [pathF_left h2.1 hk]
        intro s hs
        rcases List.mem_append.1 hs with h' | h'
        · exact path_small N _ _ (by rw [List.length_take]; omega) s h'
        · rw [List.mem_singleton.1 h', root32]; decide
      · rw [pathF_right h2.1 hk h2.2]
        intro s hs
        rcases List.mem_append.1 hs with h' | h'
        · exact path_small N _ _ (by rw [List.length_drop]; omega) s h'
        · rw [List.mem_singleton.1 h', root32]; decide
    · rw [pathF_none h2]; intro s hs; cases hs
theorem wp_append1at {P : Program} {w w0 : World} {B : Nat} {o : Oper} {a : Act} {K : Act → World → Prop} {Q : Exit → Act → World → Prop} (s x : Operand) (t : TypeId)
    (ho : o.op = .call { callee := .builtin .append, args := #[s, x], argTypes := #[t, t] })
    {base : Nat} {e : TypeId} {z : Value} {bytes : Nat} (hinf : infoIs P e z 1 bytes) (ht : P.underlying t = some (.slice e)) (hzs : z.cells.size = 1) (hby : 0 < bytes)
    {v : Value} {n : Nat} {xs : List Value} (hown : w.ownsRow base e 1 v n xs) (hbel : Below B w0 w) (hB : B ≤ base) (hb : base ≤ w.heap.size)
    {u : Value} {g : Nat} (hu : w.cell? ⟨g, 0, none⟩ = some u) (h1 : u.oneCell' = true) (hbytes : (n + 1) * bytes ≤ 140737488355328)
    (hs : a.eval s = v) (hx : a.eval x = .slice (some ⟨g, 0, none⟩) 1 1)
    (h : ∀ v' w', w'.ownsRow base e 1 v' (n + 1) (xs ++ [u]) → Below B w0 w' → K (a.put o.dst v') w') : o.wp P a w K Q := by
  obtain ⟨i, hi, hz, hsize, hbt⟩ := info_parts hinf
  have hle : n + 1 ≤ (n + 1) * bytes := Nat.le_mul_of_pos_right _ hby
  refine wp_append_own _ s x t ho base e i z 1 bytes ht hi hz hsize hbt hzs (by decide) v n xs hs hown ⟨g, 0, none⟩ 1 1 [u] hx (by simp) ?_ (by simpa using h1) (by unfold maxLen; omega) hbytes hb ?_
  · intro j x hj
    rw [addr_add, Nat.zero_add]
    rcases j with _ | j
    · simp at hj; subst hj; exact hu
    · simp at hj
  · intro v' w' hown' hgrow _
    refine h v' w' hown' (hbel.grown hgrow (by omega) ?_)
    intro k hk
    have := (hown.lt k hk).1; omega
theorem rdS_in {w : World} {v : Value} {len : Nat} {z : List ByteArray} (f : rdRow w 1 v len (z.map .string)) (g : ∀ s ∈ z, s.size ≤ 140737488351232) (m : len * 16 ≤ 140737488351232) : rdS w v z ∧ smalls z ∧ z.length * 16 ≤ 140737488351232 := by
  have hl : z.length = len := by have := f.1; simpa using this
  subst hl
  exact ⟨f, fun s hs => Nat.le_trans (g s hs) (by decide), m⟩
theorem pick_nat (i : Int) (n : Nat) (h : 1 ≤ n) : ∃ j : Nat, i % (n : Int) = (j : Int) ∧ j < n := by
  have := pick_law i n h
  exact ⟨(i % (n : Int)).toNat, by omega, by omega⟩
set_option maxRecDepth 100000 in
set_option maxHeartbeats 3200000 in
theorem merklePaths_walk {w : World} (ht : Tab w) (v : Value) (len : Nat) (z : List ByteArray) (f : rdRow w 1 v len (z.map .string)) (g : ∀ s ∈ z, s.size ≤ 140737488351232) (m : len * 16 ≤ 140737488351232) (i : Int) (hi : -9223372036854775808 ≤ i ∧ i ≤ 9223372036854775807) :
    Calls Tryd.prog 5 #[v, .int .i64 i] w fun e w' => e = .returned (.bool true) ∧ Below w.heap.size w w' := by
  obtain ⟨hr, hs, hm⟩ := rdS_in f g m
  have HF := Lib.hid (few_any z v w hr)
  obtain ⟨la, hla⟩ : ∃ la, la = z.take 130 := ⟨_, rfl⟩
  have hl130 : la.length ≤ 130 := by rw [hla, List.length_take]; omega
  have hsm : smalls la := by rw [hla]; exact smalls_take hs 130
  rw [← hla] at HF
  have HT := Lib.hid ht
  have HS := Lib.hid hsm
  obtain ⟨hi1, hi2⟩ := hi
  clear ht hr hs hm f g m hla hsm
  go_enter Tryd.func5, Tryd.ntmps5
  go_wp2_with fail
  (with_reducible refine HF.out.mono ?_)
  rintro e w1 ⟨v1, rfl, hown, hb⟩
  have hr1 := rdS_owns hown
  have HW1 := Lib.hid hb
  have HT1 := Lib.hid (HT.out.below hb)
  have HB1 := Lib.hid (Below.refl w1.heap.size w1)
  have HR1 := Lib.hid hr1
  have HOWN := Lib.hid hown
  clear hb hown HF HT
  by_cases h0 : la.length = 0
  · have hla : la = [] := List.eq_nil_of_length_eq_zero h0
    subst hla
    obtain ⟨ao, cap, rfl⟩ := rdS_form hr1
    have HRO := Lib.hid (fun w' (hb : Below w1.heap.size w1 w') => root_any 0 [] _ w' (by simp) (by omega) (hr1.below hb) HS.out (HT1.out.below hb))
    rw [rootF_nil] at HRO
    simp only [List.length_nil] at HRO
    obtain ⟨r, hr0⟩ : ∃ r, r = sumF ⟨#[]⟩ := ⟨_, rfl⟩
    rw [← hr0] at HRO
    have hoo := beq_yes r
    have HRR := Lib.hid hr0
    clear hr1 h0 hr0
    go_wp2_with fail
    (with_reducible refine (roots_any _ (HT1.out.below HB1.out)).mono ?_)
    rintro e w2 ⟨rfl, hb⟩
    have HB2 := Lib.hid (HB1.out.trans (hb.mono HB1.out.size))
    have HL2 := Lib.hid hb
    clear hb
    go_wp2_with fail
    (with_reducible refine (HRO.out _ HB2.out).mono ?_)
    rintro e w3 ⟨rfl, hb⟩
    have HB3 := Lib.hid (HB2.out.trans (hb.mono HB2.out.size))
    have HL3 := Lib.hid hb
    clear hb
    go_wp2_with fail
    (with_reducible refine (sum_any _ _ (HT1.out.below HB3.out)).mono ?_)
    rintro e w4 ⟨rfl, hb⟩
    rw [← HRR.out]
    have HB4 := Lib.hid (HB3.out.trans (hb.mono HB3.out.size))
    have HL4 := Lib.hid hb
    clear hb
    go_wp2_with fail
    go_ret
    exact ⟨rfl, HW1.out.trans (HB4.out.mono HW1.out.size)⟩
  · obtain ⟨b, off, cap, rfl, hbl, hall⟩ := rdS_all hr1 (by omega)
    obtain ⟨j, hj, hjn⟩ := pick_nat i la.length (by omega)
    obtain ⟨x, hx⟩ : ∃ x, x = la.getD j ⟨#[]⟩ := ⟨_, rfl⟩
    have hcx := hall j hjn
    rw [← hx] at hcx
    have hxs : x.size ≤ 140737488355328 := by rw [hx]; exact smalls_at HS.out j
    have HC := Lib.hid (And.intro hcx hbl)
    have HRO := Lib.hid (fun w' (hb : Below w1.heap.size w1 w') => root_any 130 la _ w' hl130 (by omega) (HR1.out.below hb) HS.out (HT1.out.below hb))
    have HPA := Lib.hid (fun w' (hb : Below w1.heap.size w1 w') => path_any 130 la _ j w' hl130 (Nat.le_refl _) hjn (HR1.out.below hb) HS.out (HT1.out.below hb))
    obtain ⟨q, hq⟩ : ∃ q, q = pathF la j := ⟨_, rfl⟩
    obtain ⟨rt, hrt⟩ : ∃ r, r = rootF la := ⟨_, rfl⟩
    rw [← hq] at HPA
    rw [← hrt] at HRO
    have hq8 : q.length ≤ 8 := by rw [hq]; exact pathF_length 8 la j (by omega)
    have hck1 := check_path hjn hl130
    have hck2 := check_more ⟨#[120]⟩ hjn
    rw [← hrt, ← hq, ← hx] at hck1 hck2
    have HCK := Lib.hid (And.intro hck1 hck2)
    have hqs : smalls q := by rw [hq]; exact path_small la.length la j (Nat.le_refl _)
    have HQS := Lib.hid hqs
    obtain ⟨n, hn⟩ : ∃ n, n = la.length := ⟨_, rfl⟩
    have HN := Lib.hid hn
    rw [← hn] at hl130 hjn hj HRO HPA HCK ⊢
    have HPI := Lib.hid (fun w' => pick_any i n w' hi1 hi2 (by omega) (by omega))
    rw [hj] at HPI
    have hn0 : ((n : Int) == 0) = false := by simp; omega
    have hjn2 : (j : Int) < (n : Int) := by omega
    clear hr1 h0 hall hcx hck1 hck2 hqs hq hrt hx hj hn HR1 HOWN hi1 hi2
    go_wp2_with fail
    (with_reducible refine (roots_any _ (HT1.out.below HB1.out)).mono ?_)
    rintro e w2 ⟨rfl, hb⟩
    have HB2 := Lib.hid (HB1.out.trans (hb.mono HB1.out.size))
    have HL2 := Lib.hid hb
    clear hb
    go_wp2_with fail
    (with_reducible refine (HPI.out _).mono ?_)
    rintro e w0 ⟨rfl, rfl⟩
    go_wp2_with fail
    (with_reducible refine (HPA.out _ HB2.out).mono ?_)
    rintro e w3 ⟨pv, rfl, hown, hb⟩
    have HB3 := Lib.hid (HB2.out.trans (hb.mono HB2.out.size))
    have HO3 := Lib.hid (owns_base hown HB2.out.size)
    clear hb hown
    have hrq := rdS_owns HO3.out
    obtain ⟨pao, pcap, hpv⟩ := rdS_form hrq
    have HPV := Lib.hid (And.intro hpv hrq)
    subst hpv
    clear hrq
    go_wp2_with fail
    have hc3 : w3.drew.cell? ⟨b, off + j, none⟩ = some (.string x) := by rw [← HC.out.1]; exact HB3.out.drew.cell (p := ⟨b, off + j, none⟩) HC.out.2
    have hq8i : (q.length : Int) ≤ 8 := by omega
    refine Twin.wp_region_order (.q 0 (.q 2 (.q 3 (.q 4 (.q 5 (.q 6 (.q 7 (.q 8 (.q 9 (.l 1 (.l 10 (.q 11 (.q 12 (.q 13 (.q 14 (.q 15 (.q 16 (.q 17 (.q 19 (.q 20 (.q 21 (.q 22 (.q 23 (.q 24 (.q 25 (.q 26 (.l2 18 27 (.l 27 (.l 28 (.l 29 (.q 30 (.q 31 (.q 32 (.nil))))))) (.l 18 (.l 28 (.l 29 (.q 30 (.q 31 (.q 32 (.nil)))))))))))))))))))))))))))))))))) (fun w' => w'.cell? ⟨b, off + j, none⟩ = some (.string x)) (by kernel_rfl) (by kernel_rfl) rfl (by kernel_rfl) (by intro _ _ d _ _ h; cases d <;> exact h) (hc3) ?_; simp only [Twin.Ord.opers, List.getElem?_toArray, List.getElem?_cons_zero, List.getElem?_cons_succ, Option.getD_some]
    repeat (first | (refine Twin.ro_q (by rfl) (v := ?_) ?_ ?_; rotate_left; (focus (intro w' hSw; (try dsimp only at hSw); go_simp; try with_reducible rfl)); simp only [Act.put, List.setIfInBounds_toArray, List.set_cons_zero, List.set_cons_succ]) | (refine Twin.ro_skip (by rfl) ?_; simp only [Act.put, List.setIfInBounds_toArray, List.set_cons_zero, List.set_cons_succ]))
    (refine Twin.ro_loud (by rfl) (fun K hK => ?_); go_simp)
    (with_reducible refine (HRO.out _ HB3.out.drew).mono ?_)
    rintro e w4 ⟨rfl, hb⟩
    have HB4 := Lib.hid (HB3.out.drew.trans (hb.mono HB3.out.drew.size))
    have HL4 := Lib.hid hb
    clear hb
    have hc4 : w4.cell? ⟨b, off + j, none⟩ = some (.string x) := by rw [← HC.out.1]; exact HB4.out.cell (p := ⟨b, off + j, none⟩) HC.out.2
    (refine hK.out _ _ (fun w' => w'.cell? ⟨b, off + j, none⟩ = some (.string x)) (.inl fun _ h => h) (hc4) ?_; clear hK K; try simp only [Act.put, List.setIfInBounds_toArray, List.set_cons_zero, List.set_cons_succ])
    repeat (first | (refine Twin.ro_q (by rfl) (v := ?_) ?_ ?_; rotate_left; (focus (intro w' hSw; (try dsimp only at hSw); go_simp; try with_reducible rfl)); simp only [Act.put, List.setIfInBounds_toArray, List.set_cons_zero, List.set_cons_succ]) | (refine Twin.ro_skip (by rfl) ?_; simp only [Act.put, List.setIfInBounds_toArray, List.set_cons_zero, List.set_cons_succ]))
    (refine Twin.ro_loud (by rfl) (fun K hK => ?_); go_simp)
    (with_reducible refine (check_any rt n j x q _ _ hxs (rdS.below (rdS_owns (World.ownsRow.drew HO3.out)) HL4.out) HQS.out (HT1.out.below HB4.out)).mono ?_)
    rintro e w5 ⟨rfl, hb⟩
    rw [HCK.out.1]
    have HB5 := Lib.hid (HB4.out.trans (hb.mono HB4.out.size))
    have HL5 := Lib.hid hb
    clear hb
    have hc5 : w5.cell? ⟨b, off + j, none⟩ = some (.string x) := by rw [← HC.out.1]; exact HB5.out.cell (p := ⟨b, off + j, none⟩) HC.out.2
    (refine hK.out _ _ (fun w' => w'.cell? ⟨b, off + j, none⟩ = some (.string x)) (.inl fun _ h => h) (hc5) ?_; clear hK K; try simp only [Act.put, List.setIfInBounds_toArray, List.set_cons_zero, List.set_cons_succ])
    repeat (first | (refine Twin.ro_q (by rfl) (v := ?_) ?_ ?_; rotate_left; (focus (intro w' hSw; (try dsimp only at hSw); go_simp; try with_reducible rfl)); simp only [Act.put, List.setIfInBounds_toArray, List.set_cons_zero, List.set_cons_succ]) | (refine Twin.ro_skip (by rfl) ?_; simp only [Act.put, List.setIfInBounds_toArray, List.set_cons_zero, List.set_cons_succ]))
    refine Twin.ro_two ?_ ?_
    · (refine Twin.ro_loud (by rfl) (fun K hK => ?_); go_simp)
      (with_reducible refine (HRO.out _ HB5.out).mono ?_)
      rintro e w6 ⟨rfl, hb⟩
      have HB6 := Lib.hid (HB5.out.trans (hb.mono HB5.out.size))
      have HL6 := Lib.hid hb
      clear hb
      have hc6 : w6.cell? ⟨b, off + j, none⟩ = some (.string x) := by rw [← HC.out.1]; exact HB6.out.cell (p := ⟨b, off + j, none⟩) HC.out.2
      (refine hK.out _ _ (fun w' => w'.cell? ⟨b, off + j, none⟩ = some (.string x)) (.inl fun _ h => h) (hc6) ?_; clear hK K; try simp only [Act.put, List.setIfInBounds_toArray, List.set_cons_zero, List.set_cons_succ])
      repeat (first | (refine Twin.ro_q (by rfl) (v := ?_) ?_ ?_; rotate_left; (focus (intro w' hSw; (try dsimp only at hSw); go_simp; try with_reducible rfl)); simp only [Act.put, List.setIfInBounds_toArray, List.set_cons_zero, List.set_cons_succ]) | (refine Twin.ro_skip (by rfl) ?_; simp only [Act.put, List.setIfInBounds_toArray, List.set_cons_zero, List.set_cons_succ]))
      (refine Twin.ro_loud (by rfl) (fun K hK => ?_); go_simp)
      have HB7 := Lib.hid (HB6.out.alloc HB6.out.size (.cells #[.string ⟨#[120]⟩] 9))
      have hc7 : (w6.alloc (.cells #[.string ⟨#[120]⟩] 9)).cell? ⟨b, off + j, none⟩ = some (.string x) := by rw [← HC.out.1]; exact HB7.out.cell (p := ⟨b, off + j, none⟩) HC.out.2
      (refine hK.out _ _ (fun w' => w'.cell? ⟨b, off + j, none⟩ = some (.string x)) (.inl fun _ h => h) (hc7) ?_; clear hK K; try simp only [Act.put, List.setIfInBounds_toArray, List.set_cons_zero, List.set_cons_succ])
      repeat (first | (refine Twin.ro_q (by rfl) (v := ?_) ?_ ?_; rotate_left; (focus (intro w' hSw; (try dsimp only at hSw); go_simp; try with_reducible rfl)); simp only [Act.put, List.setIfInBounds_toArray, List.set_cons_zero, List.set_cons_succ]) | (refine Twin.ro_skip (by rfl) ?_; simp only [Act.put, List.setIfInBounds_toArray, List.set_cons_zero, List.set_cons_succ]))
      refine Twin.ro_loud (by rfl) (fun K hK => ?_)
      refine wp_append1 (.tmp 55) (.tmp 56) 22 rfl info_string Tryd.underlying22 rfl (by decide) (owns_below (owns_below (owns_below (World.ownsRow.drew HO3.out) HL4.out) HL5.out) HL6.out) HB6.out (Nat.le_refl _) HB6.out.size rfl (by omega) rfl rfl ?_
      intro v' w8 hown' hB'
      have HO8 := Lib.hid (show w8.ownsRow w1.heap.size 9 1 v' (q ++ [(⟨#[120]⟩ : ByteArray)]).length (svs (q ++ [(⟨#[120]⟩ : ByteArray)])) by rw [List.length_append, svs_append]; exact hown')
      have HB8 := Lib.hid hB'
      clear hown' hB'
      have hc8 : w8.cell? ⟨b, off + j, none⟩ = some (.string x) := by rw [← HC.out.1]; exact HB8.out.cell (p := ⟨b, off + j, none⟩) HC.out.2
      (refine hK.out _ _ (fun w' => w'.cell? ⟨b, off + j, none⟩ = some (.string x)) (.inl fun _ h => h) (hc8) ?_; clear hK K; try simp only [Act.put, List.setIfInBounds_toArray, List.set_cons_zero, List.set_cons_succ])
      repeat (first | (refine Twin.ro_q (by rfl) (v := ?_) ?_ ?_; rotate_left; (focus (intro w' hSw; (try dsimp only at hSw); go_simp; try with_reducible rfl)); simp only [Act.put, List.setIfInBounds_toArray, List.set_cons_zero, List.set_cons_succ]) | (refine Twin.ro_skip (by rfl) ?_; simp only [Act.put, List.setIfInBounds_toArray, List.set_cons_zero, List.set_cons_succ]))
      (refine Twin.ro_loud (by rfl) (fun K hK => ?_); go_simp)
      (with_reducible refine (check_any rt n j x (q ++ [(⟨#[120]⟩ : ByteArray)]) _ _ hxs (rdS_owns HO8.out) (smalls_more HQS.out (by decide)) (HT1.out.below HB8.out)).mono ?_)
      rintro e w9 ⟨rfl, hb⟩
      rw [HCK.out.2]
      have HB9 := Lib.hid (HB8.out.trans (hb.mono HB8.out.size))
      have HL9 := Lib.hid hb
      clear hb
      have hc9 : w9.cell? ⟨b, off + j, none⟩ = some (.string x) := by rw [← HC.out.1]; exact HB9.out.cell (p := ⟨b, off + j, none⟩) HC.out.2
      (refine hK.out _ _ (fun w' => w'.cell? ⟨b, off + j, none⟩ = some (.string x)) (.inl fun _ h => h) (hc9) ?_; clear hK K; try simp only [Act.put, List.setIfInBounds_toArray, List.set_cons_zero, List.set_cons_succ])
      repeat (first | (refine Twin.ro_q (by rfl) (v := ?_) ?_ ?_; rotate_left; (focus (intro w' hSw; (try dsimp only at hSw); go_simp; try with_reducible rfl)); simp only [Act.put, List.setIfInBounds_toArray, List.set_cons_zero, List.set_cons_succ]) | (refine Twin.ro_skip (by rfl) ?_; simp only [Act.put, List.setIfInBounds_toArray, List.set_cons_zero, List.set_cons_succ]))
      (refine Twin.ro_nil ?_; go_wp2_with fail)
      go_ret
      exact ⟨rfl, HW1.out.trans (HB9.out.mono HW1.out.size)⟩
    · (refine Twin.ro_loud (by rfl) (fun K hK => ?_); go_simp)
      have HB6 := Lib.hid (HB5.out.alloc HB5.out.size (.cells #[.string ⟨#[120]⟩] 9))
      have hc6 : (w5.alloc (.cells #[.string ⟨#[120]⟩] 9)).cell? ⟨b, off + j, none⟩ = some (.string x) := by rw [← HC.out.1]; exact HB6.out.cell (p := ⟨b, off + j, none⟩) HC.out.2
      (refine hK.out _ _ (fun w' => w'.cell? ⟨b, off + j, none⟩ = some (.string x)) (.inl fun _ h => h) (hc6) ?_; clear hK K; try simp only [Act.put, List.setIfInBounds_toArray, List.set_cons_zero, List.set_cons_succ])
      repeat (first | (refine Twin.ro_q (by rfl) (v := ?_) ?_ ?_; rotate_left; (focus (intro w' hSw; (try dsimp only at hSw); go_simp; try with_reducible rfl)); simp only [Act.put, List.setIfInBounds_toArray, List.set_cons_zero, List.set_cons_succ]) | (refine Twin.ro_skip (by rfl) ?_; simp only [Act.put, List.setIfInBounds_toArray, List.set_cons_zero, List.set_cons_succ]))
      (refine Twin.ro_loud (by rfl) (fun K hK => ?_); go_simp)
      (with_reducible refine (HRO.out _ HB6.out).mono ?_)
      rintro e w7 ⟨rfl, hb⟩
      have HB7 := Lib.hid (HB6.out.trans (hb.mono HB6.out.size))
      have HL7 := Lib.hid hb
      clear hb
      have hc7 : w7.cell? ⟨b, off + j, none⟩ = some (.string x) := by rw [← HC.out.1]; exact HB7.out.cell (p := ⟨b, off + j, none⟩) HC.out.2
      (refine hK.out _ _ (fun w' => w'.cell? ⟨b, off + j, none⟩ = some (.string x)) (.inl fun _ h => h) (hc7) ?_; clear hK K; try simp only [Act.put, List.setIfInBounds_toArray, List.set_cons_zero, List.set_cons_succ])
      repeat (first | (refine Twin.ro_q (by rfl) (v := ?_) ?_ ?_; rotate_left; (focus (intro w' hSw; (try dsimp only at hSw); go_simp; try with_reducible rfl)); simp only [Act.put, List.setIfInBounds_toArray, List.set_cons_zero, List.set_cons_succ]) | (refine Twin.ro_skip (by rfl) ?_; simp only [Act.put, List.setIfInBounds_toArray, List.set_cons_zero, List.set_cons_succ]))
      have hg7 : w7.cell? ⟨w5.heap.size, 0, none⟩ = some (.string ⟨#[120]⟩) := by rw [HL7.out.cell (p := ⟨w5.heap.size, 0, none⟩) (by simp)]; exact cell_block 0 _ rfl
      refine Twin.ro_loud (by rfl) (fun K hK => ?_)
      refine wp_append1at (.tmp 55) (.tmp 56) 22 rfl info_string Tryd.underlying22 rfl (by decide) (owns_below ((owns_below (owns_below (World.ownsRow.drew HO3.out) HL4.out) HL5.out).alloc _) HL7.out) HB7.out (Nat.le_refl _) HB7.out.size hg7 rfl (by omega) rfl rfl ?_
      intro v' w8 hown' hB'
      have HO8 := Lib.hid (show w8.ownsRow w1.heap.size 9 1 v' (q ++ [(⟨#[120]⟩ : ByteArray)]).length (svs (q ++ [(⟨#[120]⟩ : ByteArray)])) by rw [List.length_append, svs_append]; exact hown')
      have HB8 := Lib.hid hB'
      clear hown' hB'
      have hc8 : w8.cell? ⟨b, off + j, none⟩ = some (.string x) := by rw [← HC.out.1]; exact HB8.out.cell (p := ⟨b, off + j, none⟩) HC.out.2
      (refine hK.out _ _ (fun w' => w'.cell? ⟨b, off + j, none⟩ = some (.string x)) (.inl fun _ h => h) (hc8) ?_; clear hK K; try simp only [Act.put, List.setIfInBounds_toArray, List.set_cons_zero, List.set_cons_succ])
      repeat (first | (refine Twin.ro_q (by rfl) (v := ?_) ?_ ?_; rotate_left; (focus (intro w' hSw; (try dsimp only at hSw); go_simp; try with_reducible rfl)); simp only [Act.put, List.setIfInBounds_toArray, List.set_cons_zero, List.set_cons_succ]) | (refine Twin.ro_skip (by rfl) ?_; simp only [Act.put, List.setIfInBounds_toArray, List.set_cons_zero, List.set_cons_succ]))
      (refine Twin.ro_loud (by rfl) (fun K hK => ?_); go_simp)
      (with_reducible refine (check_any rt n j x (q ++ [(⟨#[120]⟩ : ByteArray)]) _ _ hxs (rdS_owns HO8.out) (smalls_more HQS.out (by decide)) (HT1.out.below HB8.out)).mono ?_)
      rintro e w9 ⟨rfl, hb⟩
      rw [HCK.out.2]
      have HB9 := Lib.hid (HB8.out.trans (hb.mono HB8.out.size))
      have HL9 := Lib.hid hb
      clear hb
      have hc9 : w9.cell? ⟨b, off + j, none⟩ = some (.string x) := by rw [← HC.out.1]; exact HB9.out.cell (p := ⟨b, off + j, none⟩) HC.out.2
      (refine hK.out _ _ (fun w' => w'.cell? ⟨b, off + j, none⟩ = some (.string x)) (.inl fun _ h => h) (hc9) ?_; clear hK K; try simp only [Act.put, List.setIfInBounds_toArray, List.set_cons_zero, List.set_cons_succ])
      repeat (first | (refine Twin.ro_q (by rfl) (v := ?_) ?_ ?_; rotate_left; (focus (intro w' hSw; (try dsimp only at hSw); go_simp; try with_reducible rfl)); simp only [Act.put, List.setIfInBounds_toArray, List.set_cons_zero, List.set_cons_succ]) | (refine Twin.ro_skip (by rfl) ?_; simp only [Act.put, List.setIfInBounds_toArray, List.set_cons_zero, List.set_cons_succ]))
      (refine Twin.ro_nil ?_; go_wp2_with fail)
      go_ret
      exact ⟨rfl, HW1.out.trans (HB9.out.mono HW1.out.size)⟩
end Go.Proofs.YtjfahfecmhnmoaaDoor
