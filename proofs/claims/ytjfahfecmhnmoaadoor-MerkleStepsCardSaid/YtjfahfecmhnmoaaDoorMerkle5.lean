/- The walks of Extends, and of the statements' own helpers. -/
import Derived.Test.YtjfahfecmhnmoaaDoorMerkle4
namespace Go.Proofs.YtjfahfecmhnmoaaDoor
open Go.RowKit
set_option linter.unusedVariables false
set_option linter.unusedSimpArgs false

theorem beq_no {a b : ByteArray} (h : a ≠ b) : (a.toList == b.toList) = false := by rw [beq_dec]; simpa using h
theorem beq_yes (a : ByteArray) : (a.toList == a.toList) = true := by rw [beq_dec]; simp
theorem extF_bad {old root : ByteArray} {m n : Int} {p : List ByteArray} (h : m < 0 ∨ n < m ∨ 1099511627776 < n) : extF old m root n p = false := by unfold extF; rw [if_pos h]
theorem extF_zero {old root : ByteArray} {n : Int} {p : List ByteArray} (h : 0 ≤ n) (h2 : n ≤ 1099511627776) : extF old 0 root n p = (p.isEmpty && (decide (old = sumF ⟨#[]⟩) && (decide (0 < n) || decide (root = old)))) := by
  unfold extF; rw [if_neg (by omega), if_pos rfl]
theorem extF_pos {old root : ByteArray} {m n : Nat} {p : List ByteArray} (h1 : 1 ≤ m) (h : m ≤ n) (h2 : n ≤ 1099511627776) :
    extF old m root n p = ((bothF old m n true p).2.2 && (decide ((bothF old m n true p).1 = old) && decide ((bothF old m n true p).2.1 = root))) := by
  unfold extF; rw [if_neg (by omega), if_neg (by omega)]; simp only [Int.toNat_natCast]

set_option maxRecDepth 100000 in
set_option maxHeartbeats 1600000 in
theorem extends_any (old root : ByteArray) (m n : Int) (ps : List ByteArray) (v : Value) (w : World) (hs : old.size ≤ 140737488355328) (hr : rdS w v ps) (hsm : smalls ps) (ht : Tab w) :
    Calls Tryd.prog 20 #[.string old, .int .i64 m, .string root, .int .i64 n, v] w fun e w' => e = .returned (.bool (extF old m root n ps)) ∧ Below w.heap.size w w' := by
  by_cases h1 : m < 0
  · rw [extF_bad (by omega)]
    clear hs hr hsm ht
    go_enter Tryd.func20, Tryd.ntmps20
    go_wp2_with fail
    go_ret
    exact ⟨rfl, Below.refl _ _⟩
  · by_cases h2 : n < m
    · rw [extF_bad (by omega)]
      clear hs hr hsm ht
      go_enter Tryd.func20, Tryd.ntmps20
      go_wp2_with fail
      go_ret
      exact ⟨rfl, Below.refl _ _⟩
    · by_cases h3 : 1099511627776 < n
      · rw [extF_bad (by omega)]
        clear hs hr hsm ht
        go_enter Tryd.func20, Tryd.ntmps20
        go_wp2_with fail
        go_ret
        exact ⟨rfl, Below.refl _ _⟩
      · by_cases h0 : m = 0
        · subst h0
          rw [extF_zero (by omega) (by omega)]
          have HT := Lib.hid ht
          obtain ⟨ao, cap, rfl⟩ := rdS_form hr
          obtain ⟨z, hz⟩ : ∃ z, z = sumF ⟨#[]⟩ := ⟨_, rfl⟩
          rw [← hz]
          have HZ := Lib.hid hz
          clear ht hr hsm h1 hz
          cases ps with
          | cons y ys =>
            have hl0 : ((ys.length : Int) + 1 == 0) = false := by simp; omega
            clear hs
            go_enter Tryd.func20, Tryd.ntmps20
            go_wp2_with fail
            go_ret
            exact ⟨rfl, Below.refl _ _⟩
          | nil =>
            by_cases ho : old = z
            · subst ho
              have hoo := beq_yes old
              by_cases hn : 0 < n
              · have hv : (([] : List ByteArray).isEmpty && (decide (old = old) && (decide (0 < n) || decide (root = old)))) = true := by simp [hn]
                rw [hv]
                clear hv hs
                go_enter Tryd.func20, Tryd.ntmps20
                go_wp2_with fail
                refine (sum_any _ _ HT.out).mono ?_
                rintro e w1 ⟨rfl, hb⟩
                have HB1 := Lib.hid hb
                clear hb
                rw [← HZ.out]
                go_wp2_with fail
                go_ret
                exact ⟨rfl, HB1.out⟩
              · have hn0 : n = 0 := by omega
                subst hn0
                have hv : (([] : List ByteArray).isEmpty && (decide (old = old) && (decide ((0 : Int) < 0) || decide (root = old)))) = (root.toList == old.toList) := by rw [beq_dec]; simp
                rw [hv]
                clear hv hs hn h2 h3
                go_enter Tryd.func20, Tryd.ntmps20
                go_wp2_with fail
                refine (sum_any _ _ HT.out).mono ?_
                rintro e w1 ⟨rfl, hb⟩
                have HB1 := Lib.hid hb
                clear hb
                rw [← HZ.out]
                go_wp2_with fail
                go_ret
                exact ⟨rfl, HB1.out⟩
            · have hoo := beq_no ho
              have hv : (([] : List ByteArray).isEmpty && (decide (old = z) && (decide (0 < n) || decide (root = old)))) = false := by simp [ho]
              rw [hv]
              clear hv hs ho
              go_enter Tryd.func20, Tryd.ntmps20
              go_wp2_with fail
              refine (sum_any _ _ HT.out).mono ?_
              rintro e w1 ⟨rfl, hb⟩
              have HB1 := Lib.hid hb
              clear hb
              rw [← HZ.out]
              go_wp2_with fail
              go_ret
              exact ⟨rfl, HB1.out⟩
        · obtain ⟨a, rfl⟩ : ∃ a : Nat, m = (a : Int) := ⟨m.toNat, by omega⟩
          obtain ⟨b, rfl⟩ : ∃ b : Nat, n = (b : Int) := ⟨n.toNat, by omega⟩
          rw [extF_pos (by omega) (by omega) (by omega)]
          have HBO := Lib.hid (both_any b old a b true ps v w (Nat.le_refl _) (by omega) (by omega) (by omega) hs hr hsm ht)
          obtain ⟨u, hu⟩ : ∃ u, u = bothF old a b true ps := ⟨_, rfl⟩
          rw [← hu]
          have HU := Lib.hid hu
          have g1 : (1 : Int) ≤ (a : Int) := by omega
          have g2 : (b : Int) ≤ 1099511627776 := by omega
          have g3 : (a : Int) ≤ (b : Int) := by omega
          have g4 : ((a : Int) == 0) = false := by simp; omega
          clear hu ht hr hsm h1 h2 h3 h0 hs
          go_enter Tryd.func20, Tryd.ntmps20
          go_wp2_with fail
          (with_reducible refine HBO.out.mono ?_)
          rintro e w1 ⟨rfl, hb⟩
          rw [← HU.out]
          have HB1 := Lib.hid hb
          clear hb
          obtain ⟨r, q, o⟩ := u
          dsimp only
          cases o with
          | false =>
            go_wp2_with fail
            go_ret
            exact ⟨rfl, HB1.out⟩
          | true =>
            by_cases ho : r = old
            · subst ho
              have hoo := beq_yes r
              go_wp2_with fail
              go_ret
              exact ⟨congrArg (fun b => Ending.returned (Value.bool b)) (beq_dec q root), HB1.out⟩
            · have hoo := beq_no ho
              have hv : (true && (decide (r = old) && decide (q = root))) = false := by simp [ho]
              have HV := Lib.hid hv
              clear ho hv
              go_wp2_with fail
              go_ret
              exact ⟨congrArg (fun b => Ending.returned (Value.bool b)) HV.out.symm, HB1.out⟩
set_option maxRecDepth 100000 in
set_option maxHeartbeats 1600000 in
theorem few_any (ss : List ByteArray) (v : Value) (w : World) (hr : rdS w v ss) :
    Calls Tryd.prog 8 #[v] w (RetS w (ss.take 130)) := by
  have hlen := rdS_len hr
  by_cases h : 130 < ss.length
  · obtain ⟨v1, e1, r1⟩ := rdS_to hr 130 (by omega)
    obtain ⟨ao, cap, rfl⟩ := rdS_form hr
    have E1 := Lib.hid (show ∀ w' : World, (Instr.sliceAt 22 (.slice ao ss.length cap) none (some (.int .i64 130)) none).run Tryd.prog w' = .ok v1 w' from e1)
    have hl : (ss.take 130).length = 130 := by rw [List.length_take]; omega
    have HL := Lib.hid hl
    have hb : decide ((130 : Int) < (ss.length : Int)) = true := by simp; omega
    have hi : (130 : Int) < (ss.length : Int) := by omega
    have R1 := Lib.hid r1
    clear e1 hl h hlen hr r1
    go_enter Tryd.func8, Tryd.ntmps8
    go_wp2_with (first | (refine wpList_slice (by rfl) 22 (.tmp 6) none (some (.const (.int .i64 130))) rfl (v' := v1) E1.out ?_) | (at_builtin; refine wpList_append_rd (w0 := w) (B := w.heap.size) rfl _ _ 22 rfl info_string Tryd.underlying22 rfl (by decide) (by decide) (World.ownsRow_nil w w.heap.size 9 1) (Below.refl _ _) (Nat.le_refl _) (Nat.le_refl _) R1.out (svs_one _) (by rw [HL.out]; decide) rfl rfl ?_; intro v' w2 hown' hB'))
    go_ret
    exact ⟨_, rfl, by simpa using hown', hB'⟩
  · have hl : ss.take 130 = ss := List.take_of_length_le (by omega)
    rw [hl]
    obtain ⟨ao, cap, rfl⟩ := rdS_form hr
    have hb : decide ((130 : Int) < (ss.length : Int)) = false := by simp; omega
    have hi : (ss.length : Int) ≤ 130 := by omega
    have R1 := Lib.hid hr
    have HN := Lib.hid (show ss.length ≤ 130 by omega)
    clear hl h hlen hr
    go_enter Tryd.func8, Tryd.ntmps8
    go_wp2_with (first | (at_builtin; refine wpList_append_rd (w0 := w) (B := w.heap.size) rfl _ _ 22 rfl info_string Tryd.underlying22 rfl (by decide) (by decide) (World.ownsRow_nil w w.heap.size 9 1) (Below.refl _ _) (Nat.le_refl _) (Nat.le_refl _) R1.out (svs_one _) (by have := HN.out; omega) rfl rfl ?_; intro v' w2 hown' hB'))
    go_ret
    exact ⟨_, rfl, by simpa using hown', hB'⟩
theorem pick_law (k : Int) (n : Nat) (hn : 1 ≤ n) : 0 ≤ k % (n : Int) ∧ k % (n : Int) < (n : Int) := ⟨Int.emod_nonneg _ (by omega), Int.emod_lt_of_pos _ (by omega)⟩
set_option maxRecDepth 100000 in
set_option maxHeartbeats 1600000 in
theorem pick_any (k : Int) (n : Nat) (w : World) (hk1 : -9223372036854775808 ≤ k) (hk2 : k ≤ 9223372036854775807) (hn : 1 ≤ n) (hn2 : n ≤ 4611686018427387904) :
    Calls Tryd.prog 14 #[.int .i64 k, .int .i64 (n : Int)] w fun e w' => e = .returned (.int .i64 (k % (n : Int))) ∧ w = w' := by
  have hp := pick_law k n hn
  obtain ⟨r, hr⟩ : ∃ r, r = k % (n : Int) := ⟨_, rfl⟩
  rw [← hr] at hp ⊢
  by_cases h0 : 0 ≤ k
  · have ht : k.tmod (n : Int) = r := by rw [Int.tmod_eq_emod_of_nonneg h0, hr]
    have he : k % (n : Int) = r := hr.symm
    have hn1 : (1 : Int) ≤ (n : Int) := by omega
    obtain ⟨p1, p2⟩ := hp
    clear hr
    go_enter Tryd.func14, Tryd.ntmps14
    go_wp2_with fail
    go_ret
    exact ⟨rfl, rfl⟩
  · obtain ⟨x, hx⟩ : ∃ x, x = k.tmod (n : Int) := ⟨_, rfl⟩
    have hneg : k.tmod (n : Int) = - ((-k) % (n : Int)) := by
      have : k = -(-k) := by omega
      rw [this, Int.neg_tmod, Int.tmod_eq_emod_of_nonneg (by omega)]; simp
    have hb := pick_law (-k) n hn
    have hn1 : (1 : Int) ≤ (n : Int) := by omega
    have hx1 : -(n : Int) < x := by rw [hx, hneg]; omega
    have hx2 : x ≤ 0 := by rw [hx, hneg]; omega
    have hmod : x % (n : Int) = r := by
      rw [hr, hx]
      have := Int.tmod_add_mul_tdiv k (n : Int)
      rw [← Int.add_mul_emod_self_left (k.tmod (n : Int)) (n : Int) (k.tdiv (n : Int)), this]
    have ht : k.tmod (n : Int) = x := hx.symm
    by_cases hz : x < 0
    · have hxr : x + (n : Int) = r := by
        rw [← hmod, ← Int.add_emod_right, Int.emod_eq_of_lt (by omega) (by omega)]
      have HXR := Lib.hid hxr
      clear hr hx hneg hb hmod hp hxr h0 hk1 hk2
      go_enter Tryd.func14, Tryd.ntmps14
      go_wp2_with fail
      go_ret
      exact ⟨(by rw [← HXR.out]; rfl), rfl⟩
    · have hx0 : x = 0 := by omega
      have hr0 : r = 0 := by rw [← hmod, hx0]; simp
      subst hx0
      subst hr0
      clear hr hx hneg hb hmod hp h0 hk1 hk2
      go_enter Tryd.func14, Tryd.ntmps14
      go_wp2_with fail
      go_ret
      exact ⟨rfl, rfl⟩
set_option maxRecDepth 100000 in
set_option maxHeartbeats 1600000 in
theorem clash_any (a b : ByteArray) (w : World) (ht : Tab w) :
    Calls Tryd.prog 12 #[.string a, .string b] w fun e w' => e = .returned (.bool (clashB a b)) ∧ Below w.heap.size w w' := by
  have HT := Lib.hid ht
  clear ht
  by_cases h : a = b
  · subst h
    have hc : clashB a a = false := by simp [clashB]
    rw [hc]
    have hoo := beq_yes a
    go_enter Tryd.func12, Tryd.ntmps12
    go_wp2_with fail
    go_ret
    exact ⟨rfl, Below.refl _ _⟩
  · have hc : clashB a b = ((sumF a).toList == (sumF b).toList) := by rw [beq_dec]; simp [clashB, h]
    rw [hc]
    have hoo := beq_no h
    clear hc h
    go_enter Tryd.func12, Tryd.ntmps12
    go_wp2_with fail
    refine (sum_any a _ HT.out).mono ?_
    rintro e w1 ⟨rfl, hb⟩
    have HB1 := Lib.hid hb
    clear hb
    go_wp2_with fail
    refine (sum_any b _ (HT.out.below HB1.out)).mono ?_
    rintro e w2 ⟨rfl, hb⟩
    have HB2 := Lib.hid (HB1.out.trans (hb.mono HB1.out.size))
    clear hb
    go_wp2_with fail
    go_ret
    exact ⟨rfl, HB2.out⟩
set_option maxRecDepth 100000 in
set_option maxHeartbeats 1600000 in
theorem roots_any (w : World) (ht : Tab w) :
    Calls Tryd.prog 13 #[] w fun e w' => e = .returned (.bool true) ∧ Below w.heap.size w w' := by
  have HT := Lib.hid ht
  clear ht
  have hb0 : Below w.heap.size w (w.alloc (.cells #[.string ⟨#[97]⟩] 9)) := (Below.refl _ _).alloc (Nat.le_refl _) _
  have HRO := Lib.hid (root_any 1 [⟨#[97]⟩] (.slice (some ⟨w.heap.size, 0, none⟩) 1 1) (w.alloc (.cells #[.string ⟨#[97]⟩] 9)) (by decide) (by decide) (rdS_owns (owns_new w ⟨#[97]⟩)) (by intro s hs; simp at hs; subst hs; decide) (HT.out.below hb0))
  have h97 : (⟨#[0]⟩ ++ ⟨#[97]⟩ : ByteArray) = ⟨#[0, 97]⟩ := bs_ext rfl
  have hroot : rootF [⟨#[97]⟩] = sumF ⟨#[0, 97]⟩ := by rw [rootF_one, leafF, h97]
  obtain ⟨r, hr⟩ : ∃ r, r = sumF ⟨#[0, 97]⟩ := ⟨_, rfl⟩
  have h32 : r.size = 32 := by rw [hr]; exact sum32 _
  have HR := Lib.hid (show rootF [⟨#[97]⟩] = r ∧ sumF ⟨#[0, 97]⟩ = r from ⟨by rw [hroot, hr], hr.symm⟩)
  have HB0 := Lib.hid hb0
  clear hr hroot hb0 h97
  go_enter Tryd.func13, Tryd.ntmps13
  go_wp2_with fail
  (with_reducible refine HRO.out.mono ?_)
  rintro e w1 ⟨rfl, hb⟩
  rw [HR.out.1]
  have HB1 := Lib.hid (HB0.out.trans (hb.mono HB0.out.size))
  clear hb
  go_wp2_with fail
  refine (sum_any ⟨#[0, 97]⟩ _ (HT.out.below HB1.out)).mono ?_
  rintro e w2 ⟨rfl, hb⟩
  rw [HR.out.2]
  have HB2 := Lib.hid (HB1.out.trans (hb.mono HB1.out.size))
  clear hb
  have hoo := beq_yes r
  go_wp2_with fail
  go_ret
  exact ⟨rfl, HB2.out⟩
end Go.Proofs.YtjfahfecmhnmoaaDoor
