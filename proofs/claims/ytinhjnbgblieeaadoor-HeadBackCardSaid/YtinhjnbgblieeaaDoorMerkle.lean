/- The walks of package merkle's functions on trees: Leaf, Node, half, Root, Path, up, Check. -/
import Derived.Test.YtinhjnbgblieeaaDoorMerkleLaw
import Derived.Test.YtinhjnbgblieeaaDoorStrs
namespace Go.Proofs.YtinhjnbgblieeaaDoor
open Go.RowKit
set_option linter.unusedVariables false
set_option linter.unusedSimpArgs false

set_option maxRecDepth 100000 in
set_option maxHeartbeats 1600000 in
theorem leaf_any (s : ByteArray) (w : World) (hs : s.size ≤ 140737488355328) (ht : Tab w) :
    Calls Tryd.prog 58 #[.string s] w fun e w' => e = .returned (.string (leafF s)) ∧ Below w.heap.size w w' := by
  have HT := Lib.hid ht
  clear ht
  go_enter Tryd.func58, Tryd.ntmps58
  go_wp2_with fail
  (with_reducible refine (sum_any _ _ HT.out).mono ?_)
  rintro e w1 ⟨rfl, hb1⟩
  have HB1 := Lib.hid hb1
  clear hb1
  go_wp2_with fail
  go_ret
  exact ⟨rfl, HB1.out⟩
set_option maxRecDepth 100000 in
set_option maxHeartbeats 1600000 in
theorem node_any (a b : ByteArray) (w : World) (ha : a.size ≤ 140737488355328) (hb : b.size ≤ 140737488355328) (ht : Tab w) :
    Calls Tryd.prog 60 #[.string a, .string b] w fun e w' => e = .returned (.string (nodeF a b)) ∧ Below w.heap.size w w' := by
  have HT := Lib.hid ht
  clear ht
  go_enter Tryd.func60, Tryd.ntmps60
  go_wp2_with fail
  (with_reducible refine (sum_any _ _ HT.out).mono ?_)
  rintro e w1 ⟨rfl, hb1⟩
  have HB1 := Lib.hid hb1
  clear hb1
  go_wp2_with fail
  go_ret
  exact ⟨rfl, HB1.out⟩
set_option maxRecDepth 100000 in
set_option maxHeartbeats 1600000 in
theorem half_any (n : Nat) (w : World) (hn : n ≤ 2305843009213693951) :
    Calls Tryd.prog 59 #[.int .i64 (n : Int)] w fun e w' => e = .returned (.int .i64 ((halfF n : Nat) : Int)) ∧ w = w' := by
  obtain ⟨r, hr⟩ : ∃ r, r = halfF n := ⟨_, rfl⟩
  rw [← hr]
  have HR := Lib.hid (show halfG n 1 n = r from hr.symm)
  clear hr
  go_enter Tryd.func59, Tryd.ntmps59
  go_wp2_with fail
  go_loop [3] (fun i => ∃ (f k : Nat), i = .int .i64 (k : Int) ∧ 1 ≤ k ∧ k ≤ max 1 n ∧ n ≤ k * 2 ^ (f + 1) ∧ halfG f k n = r) (fun i => n - (intOf i).toNat)
  case atStart => exact ⟨n, 1, rfl, Nat.le_refl _, by omega, by have := Nat.lt_two_pow_self (n := n); rw [Nat.one_mul, Nat.pow_succ]; omega, HR.out⟩
  case round =>
    obtain ⟨f, k, rfl, hk1, hkn, hp, hg⟩ := hrel
    have HP := Lib.hid hp
    have HG := Lib.hid hg
    clear hp hg
    have hw1 : IntKind.i64.wrap (2 * (k : Int)) = 2 * (k : Int) := IntWalk.i64_in _ (by omega)
    have hw2 : IntKind.i64.wrap ((k : Int) * 2) = (k : Int) * 2 := IntWalk.i64_in _ (by omega)
    by_cases hlt : 2 * k < n
    · have hkb : decide (2 * (k : Int) < (n : Int)) = true := by simp; omega
      have hki : 2 * (k : Int) < (n : Int) := by omega
      go_wp2_with fail
      go_round
      case rel =>
        have hg := HG.out
        have hp := HP.out
        cases f with
        | zero => simp at hp; omega
        | succ f =>
          refine ⟨f, 2 * k, by congr 1; omega, by omega, by omega, ?_, ?_⟩
          · rw [Nat.pow_succ] at hp; rw [Nat.mul_comm 2 k, Nat.mul_assoc, Nat.mul_comm 2]; exact hp
          · rw [halfG, if_pos hlt] at hg; exact hg
      case measure => simp [intOf]; omega
    · have hkb : decide (2 * (k : Int) < (n : Int)) = false := by simp; omega
      have hki : (n : Int) ≤ 2 * (k : Int) := by omega
      have hx : k = r := by
        have hg := HG.out
        cases f with
        | zero => exact hg
        | succ f => rw [halfG, if_neg hlt] at hg; exact hg
      have HX := Lib.hid hx
      clear hx
      go_wp2_with fail
      go_ret
      exact ⟨(by rw [HX.out]; rfl), rfl⟩
set_option maxRecDepth 100000 in
set_option maxHeartbeats 1600000 in
theorem root_any : ∀ (N : Nat) (ss : List ByteArray) (v : Value) (w : World), ss.length ≤ N → N ≤ 2305843009213693951 → rdS w v ss → smalls ss → Tab w →
    Calls Tryd.prog 40 #[v] w fun e w' => e = .returned (.string (rootF ss)) ∧ Below w.heap.size w w' := by
  intro N
  induction N with
  | zero =>
    intro ss v w hN hN61 hr hs ht
    obtain rfl : ss = [] := List.eq_nil_of_length_eq_zero (by omega)
    obtain ⟨ao, cap, rfl⟩ := rdS_form hr
    have HT := Lib.hid ht
    rw [rootF_nil]
    clear ht hN hs hr
    go_enter Tryd.func40, Tryd.ntmps40
    go_wp2_with fail
    refine (sum_any _ _ HT.out).mono ?_
    rintro e w1 ⟨rfl, hb1⟩
    have HB1 := Lib.hid hb1
    clear hb1
    go_wp2_with fail
    go_ret
    exact ⟨rfl, HB1.out⟩
  | succ N ih =>
    intro ss v w hN hN61 hr hs ht
    by_cases h0 : ss.length = 0
    · obtain rfl : ss = [] := List.eq_nil_of_length_eq_zero h0
      obtain ⟨ao, cap, rfl⟩ := rdS_form hr
      have HT := Lib.hid ht
      rw [rootF_nil]
      clear ht hN hs hr ih h0
      go_enter Tryd.func40, Tryd.ntmps40
      go_wp2_with fail
      refine (sum_any _ _ HT.out).mono ?_
      rintro e w1 ⟨rfl, hb1⟩
      have HB1 := Lib.hid hb1
      clear hb1
      go_wp2_with fail
      go_ret
      exact ⟨rfl, HB1.out⟩
    · by_cases h1 : ss.length = 1
      · obtain ⟨s, rfl⟩ := List.length_eq_one_iff.1 h1
        obtain ⟨b, off, cap, rfl, hc, hbl⟩ := rdS_at hr 0 (by simp)
        have hsz := smalls_at hs 0
        have HT := Lib.hid ht
        simp only [List.getD_cons_zero, Nat.add_zero, List.length_singleton] at hc hsz ⊢
        rw [rootF_one]
        clear ht hN hs hr ih h0 h1
        go_enter Tryd.func40, Tryd.ntmps40
        go_wp2_with fail
        refine (leaf_any s _ hsz HT.out).mono ?_
        rintro e w1 ⟨rfl, hb1⟩
        have HB1 := Lib.hid hb1
        clear hb1
        go_wp2_with fail
        go_ret
        exact ⟨rfl, HB1.out⟩
      · have h2 : 2 ≤ ss.length := by omega
        have hsp := halfF_spec h2
        obtain ⟨k, hk⟩ : ∃ k, k = halfF ss.length := ⟨_, rfl⟩
        have hF := rootF_two h2
        rw [← hk] at hsp hF
        obtain ⟨v1, e1, r1⟩ := rdS_to hr k (by omega)
        obtain ⟨v2, e2, r2⟩ := rdS_from hr k (by omega)
        have hlen := rdS_len hr
        obtain ⟨ao, cap, rfl⟩ := rdS_form hr
        have IH1 := Lib.hid (fun w' (hb : Below w.heap.size w w') => ih (ss.take k) v1 w' (by rw [List.length_take]; omega) (by omega) (r1.below hb) (smalls_take hs k) (ht.below hb))
        have IH2 := Lib.hid (fun w' (hb : Below w.heap.size w w') => ih (ss.drop k) v2 w' (by rw [List.length_drop]; omega) (by omega) (r2.below hb) (smalls_drop hs k) (ht.below hb))
        obtain ⟨n, hn⟩ : ∃ n, n = ss.length := ⟨_, rfl⟩
        rw [← hn] at h2 hsp hlen e1 e2 hk hN ⊢
        have HF := Lib.hid hF
        have HT := Lib.hid ht
        have E1 := Lib.hid e1
        have E2 := Lib.hid e2
        have HK := Lib.hid hk
        have hn61 : n ≤ 2305843009213693951 := by omega
        have hk1 := hsp.1
        have hk2 := hsp.2.1
        have z1 := root32 (ss.take k)
        have z2 := root32 (ss.drop k)
        have HZ := Lib.hid (And.intro z1 z2)
        have hn0 : ((n : Int) == 0) = false := by simp; omega
        have hn1 : ((n : Int) == 1) = false := by simp; omega
        have HBw := Lib.hid (Below.refl w.heap.size w).drew
        obtain ⟨r, hr0⟩ : ∃ r, r = rootF ss := ⟨_, rfl⟩
        rw [← hr0]
        rw [← hr0] at HF
        clear hF ht hN hs hr ih h0 h1 hsp r1 r2 e1 e2 hk hn z1 z2 hr0
        go_enter Tryd.func40, Tryd.ntmps40
        go_wp2_with fail
        refine (half_any n _ (by omega)).mono ?_
        rintro e w0 ⟨rfl, rfl⟩
        rw [← HK.out]
        go_wp2_with fail
        refine Lone.wp_region_order [(0, false), (1, false), (2, false), (4, false), (5, false), (6, false), (3, true), (7, true), (8, true), (9, false)] (fun w' => True) (by kernel_rfl) (by kernel_rfl) rfl (by kernel_rfl) (by intro _ _ d _ _ h; cases d <;> exact h) (trivial) ?_; simp only [List.map_cons, List.map_nil, List.getElem?_toArray, List.getElem?_cons_zero, List.getElem?_cons_succ, Option.getD_some]
        repeat (first | (refine Lone.ro_q (by rfl) (v := ?_) ?_ ?_; rotate_left; (focus (intro w' hSw; (try dsimp only at hSw); go_simp; try with_reducible rfl)); simp only [Act.put, List.setIfInBounds_toArray, List.set_cons_zero, List.set_cons_succ]) | (refine Lone.ro_skip (by rfl) ?_; simp only [Act.put, List.setIfInBounds_toArray, List.set_cons_zero, List.set_cons_succ]))
        refine Lone.ro_q (by rfl) (v := v1) (fun w' hSw => by simp only [execOp, Act.eval, List.getElem?_toArray, List.getElem?_cons_zero, List.getElem?_cons_succ, Array.getD_eq_getD_getElem?, Option.getD_some, Option.map_some, Option.map_none, Sem.run_bind, E1.out, Result.andThen, Sem.run_pure]) ?_; simp only [Act.put, List.setIfInBounds_toArray, List.set_cons_zero, List.set_cons_succ]
        repeat (first | (refine Lone.ro_q (by rfl) (v := ?_) ?_ ?_; rotate_left; (focus (intro w' hSw; (try dsimp only at hSw); go_simp; try with_reducible rfl)); simp only [Act.put, List.setIfInBounds_toArray, List.set_cons_zero, List.set_cons_succ]) | (refine Lone.ro_skip (by rfl) ?_; simp only [Act.put, List.setIfInBounds_toArray, List.set_cons_zero, List.set_cons_succ]))
        refine Lone.ro_q (by rfl) (v := v2) (fun w' hSw => by simp only [execOp, Act.eval, List.getElem?_toArray, List.getElem?_cons_zero, List.getElem?_cons_succ, Array.getD_eq_getD_getElem?, Option.getD_some, Option.map_some, Option.map_none, Sem.run_bind, E2.out, Result.andThen, Sem.run_pure]) ?_; simp only [Act.put, List.setIfInBounds_toArray, List.set_cons_zero, List.set_cons_succ]
        (refine Lone.ro_loud (by rfl) (fun K hK => ?_); go_simp)
        refine (IH1.out _ HBw.out).mono ?_
        rintro e w1 ⟨rfl, hb⟩
        have HB1 := Lib.hid (HBw.out.trans (hb.mono HBw.out.size))
        clear hb
        (refine hK.out _ _ (fun w' => True) (.inl fun _ h => h) (trivial) ?_; clear hK K; try simp only [Act.put, List.setIfInBounds_toArray, List.set_cons_zero, List.set_cons_succ])
        repeat (first | (refine Lone.ro_q (by rfl) (v := ?_) ?_ ?_; rotate_left; (focus (intro w' hSw; (try dsimp only at hSw); go_simp; try with_reducible rfl)); simp only [Act.put, List.setIfInBounds_toArray, List.set_cons_zero, List.set_cons_succ]) | (refine Lone.ro_skip (by rfl) ?_; simp only [Act.put, List.setIfInBounds_toArray, List.set_cons_zero, List.set_cons_succ]))
        (refine Lone.ro_loud (by rfl) (fun K hK => ?_); go_simp)
        refine (IH2.out _ HB1.out).mono ?_
        rintro e w2 ⟨rfl, hb⟩
        have HB2 := Lib.hid (HB1.out.trans (hb.mono HB1.out.size))
        clear hb
        (refine hK.out _ _ (fun w' => True) (.inl fun _ h => h) (trivial) ?_; clear hK K; try simp only [Act.put, List.setIfInBounds_toArray, List.set_cons_zero, List.set_cons_succ])
        repeat (first | (refine Lone.ro_q (by rfl) (v := ?_) ?_ ?_; rotate_left; (focus (intro w' hSw; (try dsimp only at hSw); go_simp; try with_reducible rfl)); simp only [Act.put, List.setIfInBounds_toArray, List.set_cons_zero, List.set_cons_succ]) | (refine Lone.ro_skip (by rfl) ?_; simp only [Act.put, List.setIfInBounds_toArray, List.set_cons_zero, List.set_cons_succ]))
        (refine Lone.ro_loud (by rfl) (fun K hK => ?_); go_simp)
        refine (node_any _ _ _ (by rw [HZ.out.1]; decide) (by rw [HZ.out.2]; decide) (HT.out.below HB2.out)).mono ?_
        rintro e w3 ⟨rfl, hb⟩
        have HB3 := Lib.hid (HB2.out.trans (hb.mono HB2.out.size))
        clear hb
        (refine hK.out _ _ (fun w' => True) (.inl fun _ h => h) (trivial) ?_; clear hK K; try simp only [Act.put, List.setIfInBounds_toArray, List.set_cons_zero, List.set_cons_succ])
        repeat (first | (refine Lone.ro_q (by rfl) (v := ?_) ?_ ?_; rotate_left; (focus (intro w' hSw; (try dsimp only at hSw); go_simp; try with_reducible rfl)); simp only [Act.put, List.setIfInBounds_toArray, List.set_cons_zero, List.set_cons_succ]) | (refine Lone.ro_skip (by rfl) ?_; simp only [Act.put, List.setIfInBounds_toArray, List.set_cons_zero, List.set_cons_succ]))
        (refine Lone.ro_nil ?_; go_wp2_with fail)
        go_ret
        exact ⟨(by rw [HF.out]; rfl), HB3.out⟩
end Go.Proofs.YtinhjnbgblieeaaDoor
