/- The walks of package merkle's both and Extends. -/
import Derived.Test.YtjfahfecmhnmoaaDoorMerkle3
namespace Go.Proofs.YtjfahfecmhnmoaaDoor
open Go.RowKit
set_option linter.unusedVariables false
set_option linter.unusedSimpArgs false

theorem both_small (old : ByteArray) (ho : old.size ≤ 140737488355328) (m n : Nat) (w : Bool) (p : List ByteArray) (hp : smalls p) : (bothF old m n w p).1.size ≤ 140737488355328 ∧ (bothF old m n w p).2.1.size ≤ 140737488355328 := by
  have hz : (⟨#[]⟩ : ByteArray).size ≤ 140737488355328 := by decide
  suffices H : ∀ n m w p, smalls p → (bothF old m n w p).1.size ≤ 140737488355328 ∧ (bothF old m n w p).2.1.size ≤ 140737488355328 from H n m w p hp
  intro n
  induction n using Nat.strongRecOn with
  | _ n ih =>
    intro m w p hp
    by_cases he : m = n
    · subst he
      cases w with
      | true => rw [bothF_whole]; exact ⟨ho, ho⟩
      | false =>
        rw [bothF_part]
        split
        · exact ⟨hz, hz⟩
        · exact ⟨smalls_at hp 0, smalls_at hp 0⟩
    · rcases snoc_cases p with rfl | ⟨q, x, rfl⟩
      · rw [bothF_nil _ _ he]; exact ⟨hz, hz⟩
      · have hq : smalls q := fun y hy => hp y (by simp [hy])
        have hn : ∀ a b, (nodeF a b).size ≤ 140737488355328 := fun a b => by rw [node32]; decide
        by_cases h2 : 2 ≤ n
        · have hs := halfF_spec h2
          by_cases hk : m ≤ halfF n
          · rw [bothF_left _ _ he h2 hk]
            exact ⟨(ih _ hs.2.1 m w q hq).1, hn _ _⟩
          · rw [bothF_right _ _ he h2 hk]
            exact ⟨hn _ _, hn _ _⟩
        · rw [bothF, if_neg he, if_neg (by simp), dif_neg h2]; exact ⟨hz, hz⟩

set_option maxRecDepth 100000 in
set_option maxHeartbeats 1600000 in
theorem both_any : ∀ (N : Nat) (old : ByteArray) (m n : Nat) (wh : Bool) (ps : List ByteArray) (v : Value) (w : World), n ≤ N → N ≤ 1099511627776 → 1 ≤ m → m ≤ n → old.size ≤ 140737488355328 → rdS w v ps → smalls ps → Tab w →
    Calls Tryd.prog 30 #[.string old, .int .i64 (m : Int), .int .i64 (n : Int), .bool wh, v] w fun e w' => e = .returned (.tuple #[.string (bothF old m n wh ps).1, .string (bothF old m n wh ps).2.1, .bool (bothF old m n wh ps).2.2]) ∧ Below w.heap.size w w' := by
  intro N
  induction N with
  | zero => intro old m n wh ps v w h1 _ h2; omega
  | succ N ih =>
    intro old m n wh ps v w hN hN40 hm1 hmn0 hold hr hsm ht
    by_cases hne : m = n
    · subst hne
      have hmd : decide ((m : Int) = (m : Int)) = true := by simp
      cases wh with
      | true =>
        rw [bothF_whole]
        obtain ⟨ao, cap, rfl⟩ := rdS_form hr
        cases ps with
        | nil =>
          clear ht hN hr ih hsm hm1 hmn0 hold hN40
          go_enter Tryd.func30, Tryd.ntmps30
          go_wp2_with fail
          go_ret3
          exact ⟨rfl, Below.refl _ _⟩
        | cons y ys =>
          have hl0 : ((ys.length : Int) + 1 == 0) = false := by simp; omega
          have hm0 : decide ((ys.length : Int) + 1 = 0) = false := by simp; omega
          clear ht hN hr ih hsm hm1 hmn0 hold hN40
          go_enter Tryd.func30, Tryd.ntmps30
          go_wp2_with fail
          go_ret3
          exact ⟨rfl, Below.refl _ _⟩
      | false =>
        rw [bothF_part]
        by_cases h1 : ps.length = 1
        · obtain ⟨x, rfl⟩ := List.length_eq_one_iff.1 h1
          obtain ⟨b, off, cap, rfl, hc, hbl⟩ := rdS_at hr 0 (by simp)
          simp only [List.getD_cons_zero, Nat.add_zero, List.length_singleton] at hc ⊢
          have hcd : w.drew.cell? ⟨b, off, none⟩ = some (.string x) := hc
          clear ht hN hr ih hsm hm1 hmn0 hold hN40 h1
          go_enter Tryd.func30, Tryd.ntmps30
          go_wp2_with fail
          refine Lone.wp_region_order [(0, false), (1, false), (2, false), (3, false), (4, false), (5, false), (6, false), (7, false), (8, false)] (fun w' => w'.cell? ⟨b, off, none⟩ = some (.string x)) (by kernel_rfl) (by kernel_rfl) rfl (by kernel_rfl) (by intro _ _ d _ _ h; cases d <;> exact h) (hcd) ?_; simp only [List.map_cons, List.map_nil, List.getElem?_toArray, List.getElem?_cons_zero, List.getElem?_cons_succ, Option.getD_some]
          repeat (first | (refine Lone.ro_q (by rfl) (v := ?_) ?_ ?_; rotate_left; (focus (intro w' hSw; (try dsimp only at hSw); go_simp; try with_reducible rfl)); simp only [Act.put, List.setIfInBounds_toArray, List.set_cons_zero, List.set_cons_succ]) | (refine Lone.ro_skip (by rfl) ?_; simp only [Act.put, List.setIfInBounds_toArray, List.set_cons_zero, List.set_cons_succ]))
          (refine Lone.ro_nil ?_; go_wp2_with fail)
          go_ret3
          exact ⟨rfl, (Below.refl _ _).drew⟩
        · rw [if_pos h1]
          obtain ⟨ao, cap, rfl⟩ := rdS_form hr
          have hl1 : ((ps.length : Int) == 1) = false := by simp; omega
          have hl2 : (!((ps.length : Int) == 1)) = true := by simp; omega
          clear ht hN hr ih hsm hm1 hmn0 hold hN40
          go_enter Tryd.func30, Tryd.ntmps30
          go_wp2_with fail
          go_ret3
          exact ⟨rfl, Below.refl _ _⟩
    · have h2 : 2 ≤ n := by omega
      rcases snoc_cases ps with rfl | ⟨q, x, rfl⟩
      · rw [bothF_nil _ _ hne]
        obtain ⟨ao, cap, rfl⟩ := rdS_form hr
        have hmn : ((m : Int) == (n : Int)) = false := by simp; omega
        have hmn2 : (m : Int) < (n : Int) := by omega
        clear ht hN hr ih hsm hm1 hmn0 hold hN40
        go_enter Tryd.func30, Tryd.ntmps30
        go_wp2_with fail
        go_ret3
        exact ⟨rfl, Below.refl _ _⟩
      · have hsp := halfF_spec h2
        obtain ⟨k, hk⟩ : ∃ k, k = halfF n := ⟨_, rfl⟩
        obtain ⟨l, hm⟩ : ∃ l, l = q.length := ⟨_, rfl⟩
        have hml : (q ++ [x]).length = l + 1 := by simp [hm]
        have hlen := rdS_len hr
        obtain ⟨v1, e1, r1⟩ := rdS_to hr l (by omega)
        have hq : (q ++ [x]).take l = q := by rw [hm]; simp
        have hxm : (q ++ [x]).getD l ⟨#[]⟩ = x := by rw [hm]; simp
        rw [hq] at r1
        obtain ⟨b, off, cap, rfl, hc, hbl⟩ := rdS_at hr l (by omega)
        rw [hxm] at hc
        have hx : x.size ≤ 140737488355328 := hsm x (by simp)
        have hsq : smalls q := fun y hy => hsm y (by simp [hy])
        rw [hml] at hr e1 hlen ⊢
        clear hq hxm hml hm
        rw [← hk] at hsp
        have hN40 : N ≤ 1099511627776 := by omega
        by_cases hmk0 : m ≤ halfF n
        · have hmk1 : m ≤ k := by omega
          have hF := bothF_left old wh (m := m) (n := n) (p := q) (x := x) hne h2 hmk0
          rw [← hk] at hF
          have IHU := Lib.hid (fun w' (hb : Below w.heap.size w w') => ih old m k wh q v1 w' (by omega) hN40 (by omega) (by omega) hold (r1.below hb) hsq (ht.below hb))
          have hu := both_small old hold m k wh q hsq
          have hmk : (m : Int) ≤ (k : Int) := by omega
          obtain ⟨r, hr0⟩ : ∃ r, r = bothF old m n wh (q ++ [x]) := ⟨_, rfl⟩
          rw [← hr0] at hF ⊢
          have HF := Lib.hid hF
          have HT := Lib.hid ht
          have HK := Lib.hid hk
          have E1 := Lib.hid e1
          have hk1 := hsp.1
          have hk2 := hsp.2.1
          obtain ⟨u, hu0⟩ : ∃ u, u = bothF old m k wh q := ⟨_, rfl⟩
          rw [← hu0] at hu
          have HU := Lib.hid hu0
          have hub1 := hu.1
          have hub2 := hu.2
          have hmn : ((m : Int) == (n : Int)) = false := by simp; omega
          have hmn2 : (m : Int) < (n : Int) := by omega
          have hl0 : ((l : Int) + 1 == 0) = false := by simp; omega
          
          have hn40 : n ≤ 1099511627776 := by omega
          have HBw := Lib.hid (Below.refl w.heap.size w)
          clear hF ht ih r1 e1 hk hr0 hu0 hu hsp h2 hsm hsq hr hmk0 hne hm1 hmn0
          go_enter Tryd.func30, Tryd.ntmps30
          go_wp2_with (first | (refine wpList_slice (by rfl) 22 (.tmp 48) none (some (.tmp 51)) rfl (v' := v1) E1.out ?_))
          refine (half_any n _ (by omega)).mono ?_
          rintro e w0 ⟨rfl, rfl⟩
          rw [← HK.out]
          go_wp2_with fail
          
          (with_reducible refine (IHU.out _ HBw.out).mono ?_)
          rintro e w1 ⟨rfl, hb⟩
          rw [← HU.out]
          have HB1 := Lib.hid hb
          clear hb
          go_wp2_with fail
          refine (node_any u.2.1 x _ hub2 hx (HT.out.below HB1.out)).mono ?_
          rintro e w2 ⟨rfl, hb⟩
          have HB2 := Lib.hid (HB1.out.trans (hb.mono HB1.out.size))
          clear hb
          go_wp2_with fail
          go_ret3
          exact ⟨(by rw [HF.out, ← HU.out]; rfl), HB2.out⟩
        · have hmk1 : k < m := by omega
          have hF := bothF_right old wh (m := m) (n := n) (p := q) (x := x) hne h2 hmk0
          rw [← hk] at hF
          have IHU := Lib.hid (fun w' (hb : Below w.heap.size w w') => ih old (m - k) (n - k) false q v1 w' (by omega) hN40 (by omega) (by omega) hold (r1.below hb) hsq (ht.below hb))
          have hu := both_small old hold (m - k) (n - k) false q hsq
          have hmk : (k : Int) < (m : Int) := by omega
          obtain ⟨r, hr0⟩ : ∃ r, r = bothF old m n wh (q ++ [x]) := ⟨_, rfl⟩
          rw [← hr0] at hF ⊢
          have HF := Lib.hid hF
          have HT := Lib.hid ht
          have HK := Lib.hid hk
          have E1 := Lib.hid e1
          have hk1 := hsp.1
          have hk2 := hsp.2.1
          obtain ⟨u, hu0⟩ : ∃ u, u = bothF old (m - k) (n - k) false q := ⟨_, rfl⟩
          rw [← hu0] at hu
          have HU := Lib.hid hu0
          have hub1 := hu.1
          have hub2 := hu.2
          have hmn : ((m : Int) == (n : Int)) = false := by simp; omega
          have hmn2 : (m : Int) < (n : Int) := by omega
          have hl0 : ((l : Int) + 1 == 0) = false := by simp; omega
          have hs1 : (m : Int) - (k : Int) = ((m - k : Nat) : Int) := by omega
          have hs2 : (n : Int) - (k : Int) = ((n - k : Nat) : Int) := by omega
          have HS1 := Lib.hid hs1
          have HS2 := Lib.hid hs2
          clear hs1 hs2
          have hn40 : n ≤ 1099511627776 := by omega
          have HBw := Lib.hid (Below.refl w.heap.size w)
          clear hF ht ih r1 e1 hk hr0 hu0 hu hsp h2 hsm hsq hr hmk0 hne hm1 hmn0
          go_enter Tryd.func30, Tryd.ntmps30
          go_wp2_with (first | (refine wpList_slice (by rfl) 22 (.tmp 48) none (some (.tmp 51)) rfl (v' := v1) E1.out ?_))
          refine (half_any n _ (by omega)).mono ?_
          rintro e w0 ⟨rfl, rfl⟩
          rw [← HK.out]
          go_wp2_with fail
          rw [HS1.out, HS2.out]
          (with_reducible refine (IHU.out _ HBw.out).mono ?_)
          rintro e w1 ⟨rfl, hb⟩
          rw [← HU.out]
          have HB1 := Lib.hid hb
          clear hb
          go_wp2_with fail
          refine (node_any x u.1 _ hx hub1 (HT.out.below HB1.out)).mono ?_
          rintro e w2 ⟨rfl, hb⟩
          have HB2 := Lib.hid (HB1.out.trans (hb.mono HB1.out.size))
          clear hb
          go_wp2_with fail
          refine (node_any x u.2.1 _ hx hub2 (HT.out.below HB2.out)).mono ?_
          rintro e w3 ⟨rfl, hb⟩
          have HB3 := Lib.hid (HB2.out.trans (hb.mono HB2.out.size))
          clear hb
          go_wp2_with fail
          go_ret3
          exact ⟨(by rw [HF.out, ← HU.out]; rfl), HB3.out⟩

end Go.Proofs.YtjfahfecmhnmoaaDoor
