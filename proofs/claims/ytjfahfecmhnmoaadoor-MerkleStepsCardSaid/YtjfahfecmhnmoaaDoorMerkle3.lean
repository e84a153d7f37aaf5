/- The walks of package merkle's Check, Proof and Extends. -/
import Derived.Test.YtjfahfecmhnmoaaDoorMerkle2
namespace Go.Proofs.YtjfahfecmhnmoaaDoor
open Go.RowKit
set_option linter.unusedVariables false
set_option linter.unusedSimpArgs false

/-- A new block of one string. -/
theorem owns_new (w : World) (s : ByteArray) : (w.alloc (.cells #[.string s] 9)).ownsRow w.heap.size 9 1 (.slice (some ⟨w.heap.size, 0, none⟩) 1 1) [s].length (svs [s]) :=
  ⟨rfl, .inr ⟨w.heap.size, 1, #[.string s], rfl, Nat.le_refl _, heap_alloc_new _ _, Nat.le_refl _, by decide, rfl, rfl⟩⟩
theorem checkF_bad {root s : ByteArray} {n i : Int} {p : List ByteArray} (h : ¬ (1 ≤ n ∧ n ≤ 1099511627776 ∧ 0 ≤ i ∧ i < n)) : checkF root n i s p = false := by
  cases hc : checkF root n i s p with
  | false => rfl
  | true =>
    simp only [checkF, Bool.and_eq_true, decide_eq_true_eq] at hc
    exact absurd ⟨hc.1, hc.2.1, hc.2.2.1, hc.2.2.2.1⟩ h
theorem checkF_ok {root s : ByteArray} {n i : Nat} {p : List ByteArray} (h1 : 1 ≤ n) (h2 : n ≤ 1099511627776) (h3 : i < n) : checkF root n i s p = ((upF (leafF s) n i p).2 && decide ((upF (leafF s) n i p).1 = root)) := by
  have e1 : decide ((1 : Int) ≤ (n : Int)) = true := by simp; omega
  have e2 : decide ((n : Int) ≤ 1099511627776) = true := by simp; omega
  have e3 : decide ((0 : Int) ≤ (i : Int)) = true := by simp
  have e4 : decide ((i : Int) < (n : Int)) = true := by simp; omega
  unfold checkF
  rw [e1, e2, e3, e4]
  simp only [Int.toNat_natCast, Bool.true_and]
set_option maxRecDepth 100000 in
set_option maxHeartbeats 1600000 in
theorem check_any (root : ByteArray) (n i : Int) (s : ByteArray) (ps : List ByteArray) (v : Value) (w : World) (hs : s.size ≤ 140737488355328) (hr : rdS w v ps) (hsm : smalls ps) (ht : Tab w) :
    Calls Tryd.prog 15 #[.string root, .int .i64 n, .int .i64 i, .string s, v] w fun e w' => e = .returned (.bool (checkF root n i s ps)) ∧ Below w.heap.size w w' := by
  by_cases h1 : n < 1
  · rw [checkF_bad (by omega)]
    clear hs hr hsm ht
    go_enter Tryd.func15, Tryd.ntmps15
    go_wp2_with fail
    go_ret
    exact ⟨rfl, Below.refl _ _⟩
  · by_cases h2 : 1099511627776 < n
    · rw [checkF_bad (by omega)]
      clear hs hr hsm ht
      go_enter Tryd.func15, Tryd.ntmps15
      go_wp2_with fail
      go_ret
      exact ⟨rfl, Below.refl _ _⟩
    · by_cases h3 : i < 0
      · rw [checkF_bad (by omega)]
        clear hs hr hsm ht
        go_enter Tryd.func15, Tryd.ntmps15
        go_wp2_with fail
        go_ret
        exact ⟨rfl, Below.refl _ _⟩
      · by_cases h4 : n ≤ i
        · rw [checkF_bad (by omega)]
          clear hs hr hsm ht
          go_enter Tryd.func15, Tryd.ntmps15
          go_wp2_with fail
          go_ret
          exact ⟨rfl, Below.refl _ _⟩
        · obtain ⟨a, rfl⟩ : ∃ a : Nat, n = (a : Int) := ⟨n.toNat, by omega⟩
          obtain ⟨b, rfl⟩ : ∃ b : Nat, i = (b : Int) := ⟨i.toNat, by omega⟩
          rw [checkF_ok (by omega) (by omega) (by omega)]
          have HUP := Lib.hid (fun w' (hb : Below w.heap.size w w') => up_any a (leafF s) a b ps v w' (Nat.le_refl _) (by omega) (by omega) (by omega) (leaf32 s) (hr.below hb) hsm (ht.below hb))
          obtain ⟨u, hu⟩ : ∃ u, u = upF (leafF s) a b ps := ⟨_, rfl⟩
          rw [← hu]
          have HU := Lib.hid hu
          have HT := Lib.hid ht
          have g1 : (1 : Int) ≤ (a : Int) := by omega
          have g2 : (a : Int) ≤ 1099511627776 := by omega
          have g3 : (b : Int) < (a : Int) := by omega
          clear hu ht hr hsm h1 h2 h3 h4
          go_enter Tryd.func15, Tryd.ntmps15
          go_wp2_with fail
          refine (leaf_any s _ hs HT.out).mono ?_
          rintro e w1 ⟨rfl, hb⟩
          have HB1 := Lib.hid hb
          clear hb
          go_wp2_with fail
          (with_reducible refine (HUP.out _ HB1.out).mono ?_)
          rintro e w2 ⟨rfl, hb⟩
          rw [← HU.out]
          have HB2 := Lib.hid (HB1.out.trans (hb.mono HB1.out.size))
          clear hb
          obtain ⟨r, o⟩ := u
          dsimp only
          cases o with
          | false =>
            go_wp2_with fail
            go_ret
            exact ⟨rfl, HB2.out⟩
          | true =>
            go_wp2_with fail
            go_ret
            exact ⟨(show Ending.returned (.bool (r.toList == root.toList)) = .returned (.bool (true && decide (r = root))) by rw [beq_dec]; rfl), HB2.out⟩
set_option maxRecDepth 100000 in
set_option maxHeartbeats 1600000 in
theorem proofg_any : ∀ (N : Nat) (ss : List ByteArray) (v : Value) (m : Nat) (wh : Bool) (w : World), ss.length ≤ N → N ≤ 130 → 1 ≤ m → m ≤ ss.length → rdS w v ss → smalls ss → Tab w →
    Calls Tryd.prog 29 #[v, .int .i64 (m : Int), .bool wh] w (RetS w (proofG ss m wh)) := by
  intro N
  induction N with
  | zero => intro ss v m wh w hN _ h1 h2; omega
  | succ N ih =>
    intro ss v m wh w hN hN130 hm1 hml hr hs ht
    by_cases hne : m = ss.length
    · have hp := proofG_all wh hne
      rw [hp]
      have HRO := Lib.hid (root_any (N + 1) ss v w hN (by omega) hr hs ht)
      have h32 := root32 ss
      obtain ⟨ao, cap, rfl⟩ := rdS_form hr
      have hme : ((m : Int) == (ss.length : Int)) = true := by simp [hne]
      have hmd : decide ((m : Int) = (ss.length : Int)) = true := by simp [hne]
      have hmi : (m : Int) = (ss.length : Int) := by omega
      rw [hmi]
      cases wh with
      | true =>
        clear hp ht hN hs hr ih hml hm1 hN130 hne hme hmd hmi HRO h32
        go_enter Tryd.func29, Tryd.ntmps29
        go_wp2_with fail
        go_ret
        exact ⟨_, rfl, World.ownsRow_nil _ _ _ _, Below.refl _ _⟩
      | false =>
        clear hp ht hN hs hr ih hml hm1 hN130 hne hme hmd hmi h32
        go_enter Tryd.func29, Tryd.ntmps29
        go_wp2_with fail
        (with_reducible refine HRO.out.mono ?_)
        rintro e w1 ⟨rfl, hb⟩
        have HB1 := Lib.hid hb
        clear hb
        go_wp2_with fail
        go_ret
        refine ⟨_, rfl, ?_, HB1.out.alloc HB1.out.size _⟩
        exact owns_base (owns_new w1 _) HB1.out.size
    · have h2 : 2 ≤ ss.length := by omega
      have hsp := halfF_spec h2
      obtain ⟨k, hk⟩ : ∃ k, k = halfF ss.length := ⟨_, rfl⟩
      rw [← hk] at hsp
      obtain ⟨v1, e1, r1⟩ := rdS_to hr k (by omega)
      obtain ⟨v2, e2, r2⟩ := rdS_from hr k (by omega)
      have hlen := rdS_len hr
      obtain ⟨ao, cap, rfl⟩ := rdS_form hr
      by_cases hmk0 : m ≤ halfF ss.length
      · have hmk1 : m ≤ k := by omega
        have hF := proofG_left wh hne h2 hmk0
        rw [← hk] at hF
        have IHP := Lib.hid (fun w' (hb : Below w.heap.size w w') => ih (ss.take k) v1 m wh w' (by rw [List.length_take]; omega) (by omega) (by omega) (by rw [List.length_take]; omega) (r1.below hb) (smalls_take hs k) (ht.below hb))
        have IHR := Lib.hid (fun w' (hb : Below w.heap.size w w') => root_any N (ss.drop k) v2 w' (by rw [List.length_drop]; omega) (by omega) (r2.below hb) (smalls_drop hs k) (ht.below hb))
        have HPL := Lib.hid (show (proofG (ss.take k) m wh).length ≤ 130 by have := proofG_length 8 (ss.take k) m wh (by rw [List.length_take]; omega); omega)
        obtain ⟨n, hn⟩ : ∃ n, n = ss.length := ⟨_, rfl⟩
        have hmk : (m : Int) ≤ (k : Int) := by omega
        have hmn : ((m : Int) == (n : Int)) = false := by simp; omega
        have hmn2 : (m : Int) < (n : Int) := by omega
        rw [← hn] at hsp hlen e1 e2 hk hN h2 ⊢
        obtain ⟨q, hq⟩ : ∃ q, q = proofG ss m wh := ⟨_, rfl⟩
        rw [← hq] at hF ⊢
        have HF := Lib.hid hF
        have HT := Lib.hid ht
        have E1 := Lib.hid e1
        have E2 := Lib.hid e2
        have HK := Lib.hid hk
        have hk1 := hsp.1
        have hk2 := hsp.2.1
        have HBw := Lib.hid (Below.refl w.heap.size w).drew
        have hn130 : n ≤ 131 := by omega
        clear hF ht hs hr ih r1 r2 e1 e2 hk hn hq hsp h2 hlen hmk0 hml hm1 hne
        go_enter Tryd.func29, Tryd.ntmps29
        go_wp2_with fail
        refine (half_any n _ (by omega)).mono ?_
        rintro e w0 ⟨rfl, rfl⟩
        rw [← HK.out]
        go_wp2_with fail
        refine Lone.wp_region_order [(0, false), (1, false), (2, false), (3, false), (4, false), (6, false), (7, false), (8, false), (5, true), (9, true), (10, true), (11, true), (12, false)] (fun w' => True) (by kernel_rfl) (by kernel_rfl) rfl (by kernel_rfl) (by intro _ _ d _ _ h; cases d <;> exact h) (trivial) ?_; simp only [List.map_cons, List.map_nil, List.getElem?_toArray, List.getElem?_cons_zero, List.getElem?_cons_succ, Option.getD_some]
        repeat (first | (refine Lone.ro_q (by rfl) (v := ?_) ?_ ?_; rotate_left; (focus (intro w' hSw; (try dsimp only at hSw); go_simp; try with_reducible rfl)); simp only [Act.put, List.setIfInBounds_toArray, List.set_cons_zero, List.set_cons_succ]) | (refine Lone.ro_skip (by rfl) ?_; simp only [Act.put, List.setIfInBounds_toArray, List.set_cons_zero, List.set_cons_succ]))
        refine Lone.ro_q (by rfl) (v := v1) (fun w' hSw => by simp only [execOp, Act.eval, List.getElem?_toArray, List.getElem?_cons_zero, List.getElem?_cons_succ, Array.getD_eq_getD_getElem?, Option.getD_some, Option.map_some, Option.map_none, Sem.run_bind, E1.out, Result.andThen, Sem.run_pure]) ?_; simp only [Act.put, List.setIfInBounds_toArray, List.set_cons_zero, List.set_cons_succ]
        repeat (first | (refine Lone.ro_q (by rfl) (v := ?_) ?_ ?_; rotate_left; (focus (intro w' hSw; (try dsimp only at hSw); go_simp; try with_reducible rfl)); simp only [Act.put, List.setIfInBounds_toArray, List.set_cons_zero, List.set_cons_succ]) | (refine Lone.ro_skip (by rfl) ?_; simp only [Act.put, List.setIfInBounds_toArray, List.set_cons_zero, List.set_cons_succ]))
        refine Lone.ro_q (by rfl) (v := v2) (fun w' hSw => by simp only [execOp, Act.eval, List.getElem?_toArray, List.getElem?_cons_zero, List.getElem?_cons_succ, Array.getD_eq_getD_getElem?, Option.getD_some, Option.map_some, Option.map_none, Sem.run_bind, E2.out, Result.andThen, Sem.run_pure]) ?_; simp only [Act.put, List.setIfInBounds_toArray, List.set_cons_zero, List.set_cons_succ]
        repeat (first | (refine Lone.ro_q (by rfl) (v := ?_) ?_ ?_; rotate_left; (focus (intro w' hSw; (try dsimp only at hSw); go_simp; try with_reducible rfl)); simp only [Act.put, List.setIfInBounds_toArray, List.set_cons_zero, List.set_cons_succ]) | (refine Lone.ro_skip (by rfl) ?_; simp only [Act.put, List.setIfInBounds_toArray, List.set_cons_zero, List.set_cons_succ]))
        (refine Lone.ro_loud (by rfl) (fun K hK => ?_); go_simp)
        (with_reducible refine (IHP.out _ HBw.out).mono ?_)
        rintro e w1 ⟨pv, rfl, hown, hb⟩
        have HB1 := Lib.hid (HBw.out.trans (hb.mono HBw.out.size))
        clear hb
        (refine hK.out _ _ (fun w' => True) (.inl fun _ h => h) (trivial) ?_; clear hK K; try simp only [Act.put, List.setIfInBounds_toArray, List.set_cons_zero, List.set_cons_succ])
        repeat (first | (refine Lone.ro_q (by rfl) (v := ?_) ?_ ?_; rotate_left; (focus (intro w' hSw; (try dsimp only at hSw); go_simp; try with_reducible rfl)); simp only [Act.put, List.setIfInBounds_toArray, List.set_cons_zero, List.set_cons_succ]) | (refine Lone.ro_skip (by rfl) ?_; simp only [Act.put, List.setIfInBounds_toArray, List.set_cons_zero, List.set_cons_succ]))
        (refine Lone.ro_loud (by rfl) (fun K hK => ?_); go_simp)
        refine (IHR.out _ HB1.out).mono ?_
        rintro e w2 ⟨rfl, hb⟩
        have OW2 := owns_below hown hb
        have HB2 := Lib.hid (HB1.out.trans (hb.mono HB1.out.size))
        clear hb hown
        (refine hK.out _ _ (fun w' => True) (.inl fun _ h => h) (trivial) ?_; clear hK K; try simp only [Act.put, List.setIfInBounds_toArray, List.set_cons_zero, List.set_cons_succ])
        repeat (first | (refine Lone.ro_q (by rfl) (v := ?_) ?_ ?_; rotate_left; (focus (intro w' hSw; (try dsimp only at hSw); go_simp; try with_reducible rfl)); simp only [Act.put, List.setIfInBounds_toArray, List.set_cons_zero, List.set_cons_succ]) | (refine Lone.ro_skip (by rfl) ?_; simp only [Act.put, List.setIfInBounds_toArray, List.set_cons_zero, List.set_cons_succ]))
        (refine Lone.ro_loud (by rfl) (fun K hK => ?_); go_simp)
        (refine hK.out _ _ (fun w' => True) (.inl fun _ h => h) (trivial) ?_; clear hK K; try simp only [Act.put, List.setIfInBounds_toArray, List.set_cons_zero, List.set_cons_succ])
        repeat (first | (refine Lone.ro_q (by rfl) (v := ?_) ?_ ?_; rotate_left; (focus (intro w' hSw; (try dsimp only at hSw); go_simp; try with_reducible rfl)); simp only [Act.put, List.setIfInBounds_toArray, List.set_cons_zero, List.set_cons_succ]) | (refine Lone.ro_skip (by rfl) ?_; simp only [Act.put, List.setIfInBounds_toArray, List.set_cons_zero, List.set_cons_succ]))
        
        refine Lone.ro_loud (by rfl) (fun K hK => ?_)
        refine wp_append1 (.tmp 27) (.tmp 32) 22 rfl info_string Tryd.underlying22 rfl (by decide) (owns_base OW2 (Nat.le_refl w.heap.size)) HB2.out (Nat.le_refl _) HB2.out.size rfl (by have := HPL.out; omega) rfl rfl ?_
        intro v' w4 hown' hB'
        (refine hK.out _ _ (fun w' => True) (.inl fun _ h => h) (trivial) ?_; clear hK K; try simp only [Act.put, List.setIfInBounds_toArray, List.set_cons_zero, List.set_cons_succ])
        repeat (first | (refine Lone.ro_q (by rfl) (v := ?_) ?_ ?_; rotate_left; (focus (intro w' hSw; (try dsimp only at hSw); go_simp; try with_reducible rfl)); simp only [Act.put, List.setIfInBounds_toArray, List.set_cons_zero, List.set_cons_succ]) | (refine Lone.ro_skip (by rfl) ?_; simp only [Act.put, List.setIfInBounds_toArray, List.set_cons_zero, List.set_cons_succ]))
        (refine Lone.ro_nil ?_; go_wp2_with fail)
        go_ret
        exact ⟨_, rfl, by rw [HF.out, List.length_append, svs_append]; exact hown', hB'⟩
      · have hmk1 : k < m := by omega
        have hF := proofG_right wh hne h2 hmk0
        rw [← hk] at hF
        have IHP := Lib.hid (fun w' (hb : Below w.heap.size w w') => ih (ss.drop k) v2 (m - k) false w' (by rw [List.length_drop]; omega) (by omega) (by omega) (by rw [List.length_drop]; omega) (r2.below hb) (smalls_drop hs k) (ht.below hb))
        have IHR := Lib.hid (fun w' (hb : Below w.heap.size w w') => root_any N (ss.take k) v1 w' (by rw [List.length_take]; omega) (by omega) (r1.below hb) (smalls_take hs k) (ht.below hb))
        have HPL := Lib.hid (show (proofG (ss.drop k) (m - k) false).length ≤ 130 by have := proofG_length 8 (ss.drop k) (m - k) false (by rw [List.length_drop]; omega); omega)
        obtain ⟨n, hn⟩ : ∃ n, n = ss.length := ⟨_, rfl⟩
        have hmk : (k : Int) < (m : Int) := by omega
        have hmn : ((m : Int) == (n : Int)) = false := by simp; omega
        have hmn2 : (m : Int) < (n : Int) := by omega
        have hsub : IntKind.i64.wrap ((m : Int) - (k : Int)) = ((m - k : Nat) : Int) := by rw [IntWalk.i64_in _ (by omega)]; omega
        have HSUB := Lib.hid hsub
        clear hsub
        rw [← hn] at hsp hlen e1 e2 hk hN h2 ⊢
        obtain ⟨q, hq⟩ : ∃ q, q = proofG ss m wh := ⟨_, rfl⟩
        rw [← hq] at hF ⊢
        have HF := Lib.hid hF
        have HT := Lib.hid ht
        have E1 := Lib.hid e1
        have E2 := Lib.hid e2
        have HK := Lib.hid hk
        have hk1 := hsp.1
        have hk2 := hsp.2.1
        have HBw := Lib.hid (Below.refl w.heap.size w).drew
        have hn130 : n ≤ 131 := by omega
        clear hF ht hs hr ih r1 r2 e1 e2 hk hn hq hsp h2 hlen hmk0 hml hm1 hne
        go_enter Tryd.func29, Tryd.ntmps29
        go_wp2_with fail
        refine (half_any n _ (by omega)).mono ?_
        rintro e w0 ⟨rfl, rfl⟩
        rw [← HK.out]
        go_wp2_with fail
        have hsub := HSUB.out
        refine Lone.wp_region_order [(0, false), (1, false), (2, false), (3, false), (4, false), (5, false), (7, false), (8, false), (9, false), (6, true), (10, true), (11, true), (12, true), (13, false)] (fun w' => True) (by kernel_rfl) (by kernel_rfl) rfl (by kernel_rfl) (by intro _ _ d _ _ h; cases d <;> exact h) (trivial) ?_; simp only [List.map_cons, List.map_nil, List.getElem?_toArray, List.getElem?_cons_zero, List.getElem?_cons_succ, Option.getD_some]
        repeat (first | (refine Lone.ro_q (by rfl) (v := ?_) ?_ ?_; rotate_left; (focus (intro w' hSw; (try dsimp only at hSw); go_simp; try with_reducible rfl)); simp only [Act.put, List.setIfInBounds_toArray, List.set_cons_zero, List.set_cons_succ]) | (refine Lone.ro_skip (by rfl) ?_; simp only [Act.put, List.setIfInBounds_toArray, List.set_cons_zero, List.set_cons_succ]))
        refine Lone.ro_q (by rfl) (v := v2) (fun w' hSw => by simp only [execOp, Act.eval, List.getElem?_toArray, List.getElem?_cons_zero, List.getElem?_cons_succ, Array.getD_eq_getD_getElem?, Option.getD_some, Option.map_some, Option.map_none, Sem.run_bind, E2.out, Result.andThen, Sem.run_pure]) ?_; simp only [Act.put, List.setIfInBounds_toArray, List.set_cons_zero, List.set_cons_succ]
        repeat (first | (refine Lone.ro_q (by rfl) (v := ?_) ?_ ?_; rotate_left; (focus (intro w' hSw; (try dsimp only at hSw); go_simp; try with_reducible rfl)); simp only [Act.put, List.setIfInBounds_toArray, List.set_cons_zero, List.set_cons_succ]) | (refine Lone.ro_skip (by rfl) ?_; simp only [Act.put, List.setIfInBounds_toArray, List.set_cons_zero, List.set_cons_succ]))
        refine Lone.ro_q (by rfl) (v := v1) (fun w' hSw => by simp only [execOp, Act.eval, List.getElem?_toArray, List.getElem?_cons_zero, List.getElem?_cons_succ, Array.getD_eq_getD_getElem?, Option.getD_some, Option.map_some, Option.map_none, Sem.run_bind, E1.out, Result.andThen, Sem.run_pure]) ?_; simp only [Act.put, List.setIfInBounds_toArray, List.set_cons_zero, List.set_cons_succ]
        repeat (first | (refine Lone.ro_q (by rfl) (v := ?_) ?_ ?_; rotate_left; (focus (intro w' hSw; (try dsimp only at hSw); go_simp; try with_reducible rfl)); simp only [Act.put, List.setIfInBounds_toArray, List.set_cons_zero, List.set_cons_succ]) | (refine Lone.ro_skip (by rfl) ?_; simp only [Act.put, List.setIfInBounds_toArray, List.set_cons_zero, List.set_cons_succ]))
        (refine Lone.ro_loud (by rfl) (fun K hK => ?_); go_simp)
        clear hsub
        (with_reducible refine (IHP.out _ HBw.out).mono ?_)
        rintro e w1 ⟨pv, rfl, hown, hb⟩
        have HB1 := Lib.hid (HBw.out.trans (hb.mono HBw.out.size))
        clear hb
        (refine hK.out _ _ (fun w' => True) (.inl fun _ h => h) (trivial) ?_; clear hK K; try simp only [Act.put, List.setIfInBounds_toArray, List.set_cons_zero, List.set_cons_succ])
        repeat (first | (refine Lone.ro_q (by rfl) (v := ?_) ?_ ?_; rotate_left; (focus (intro w' hSw; (try dsimp only at hSw); go_simp; try with_reducible rfl)); simp only [Act.put, List.setIfInBounds_toArray, List.set_cons_zero, List.set_cons_succ]) | (refine Lone.ro_skip (by rfl) ?_; simp only [Act.put, List.setIfInBounds_toArray, List.set_cons_zero, List.set_cons_succ]))
        (refine Lone.ro_loud (by rfl) (fun K hK => ?_); go_simp)
        refine (IHR.out _ HB1.out).mono ?_
        rintro e w2 ⟨rfl, hb⟩
        have OW2 := owns_below hown hb
        have HB2 := Lib.hid (HB1.out.trans (hb.mono HB1.out.size))
        clear hb hown
        (refine hK.out _ _ (fun w' => True) (.inl fun _ h => h) (trivial) ?_; clear hK K; try simp only [Act.put, List.setIfInBounds_toArray, List.set_cons_zero, List.set_cons_succ])
        repeat (first | (refine Lone.ro_q (by rfl) (v := ?_) ?_ ?_; rotate_left; (focus (intro w' hSw; (try dsimp only at hSw); go_simp; try with_reducible rfl)); simp only [Act.put, List.setIfInBounds_toArray, List.set_cons_zero, List.set_cons_succ]) | (refine Lone.ro_skip (by rfl) ?_; simp only [Act.put, List.setIfInBounds_toArray, List.set_cons_zero, List.set_cons_succ]))
        (refine Lone.ro_loud (by rfl) (fun K hK => ?_); go_simp)
        (refine hK.out _ _ (fun w' => True) (.inl fun _ h => h) (trivial) ?_; clear hK K; try simp only [Act.put, List.setIfInBounds_toArray, List.set_cons_zero, List.set_cons_succ])
        repeat (first | (refine Lone.ro_q (by rfl) (v := ?_) ?_ ?_; rotate_left; (focus (intro w' hSw; (try dsimp only at hSw); go_simp; try with_reducible rfl)); simp only [Act.put, List.setIfInBounds_toArray, List.set_cons_zero, List.set_cons_succ]) | (refine Lone.ro_skip (by rfl) ?_; simp only [Act.put, List.setIfInBounds_toArray, List.set_cons_zero, List.set_cons_succ]))
        
        refine Lone.ro_loud (by rfl) (fun K hK => ?_)
        refine wp_append1 (.tmp 40) (.tmp 45) 22 rfl info_string Tryd.underlying22 rfl (by decide) (owns_base OW2 (Nat.le_refl w.heap.size)) HB2.out (Nat.le_refl _) HB2.out.size rfl (by have := HPL.out; omega) rfl rfl ?_
        intro v' w4 hown' hB'
        (refine hK.out _ _ (fun w' => True) (.inl fun _ h => h) (trivial) ?_; clear hK K; try simp only [Act.put, List.setIfInBounds_toArray, List.set_cons_zero, List.set_cons_succ])
        repeat (first | (refine Lone.ro_q (by rfl) (v := ?_) ?_ ?_; rotate_left; (focus (intro w' hSw; (try dsimp only at hSw); go_simp; try with_reducible rfl)); simp only [Act.put, List.setIfInBounds_toArray, List.set_cons_zero, List.set_cons_succ]) | (refine Lone.ro_skip (by rfl) ?_; simp only [Act.put, List.setIfInBounds_toArray, List.set_cons_zero, List.set_cons_succ]))
        (refine Lone.ro_nil ?_; go_wp2_with fail)
        go_ret
        exact ⟨_, rfl, by rw [HF.out, List.length_append, svs_append]; exact hown', hB'⟩

set_option maxRecDepth 100000 in
set_option maxHeartbeats 1600000 in
theorem proof_any (ss : List ByteArray) (v : Value) (m : Nat) (w : World) (hN : ss.length ≤ 130) (hm : m ≤ ss.length) (hr : rdS w v ss) (hs : smalls ss) (ht : Tab w) :
    Calls Tryd.prog 19 #[v, .int .i64 (m : Int)] w (RetS w (proofF ss m)) := by
  by_cases h0 : m = 0
  · have hp : proofF ss m = [] := by simp [proofF, h0]
    rw [hp]
    subst h0
    clear hs ht hN hm hp hr
    go_enter Tryd.func19, Tryd.ntmps19
    go_wp2_with fail
    go_ret
    exact ⟨_, rfl, World.ownsRow_nil _ _ _ _, Below.refl _ _⟩
  · have hp : proofF ss m = proofG ss m true := by unfold proofF; rw [if_pos ⟨by omega, hm⟩]
    rw [hp]
    have HP := Lib.hid (proofg_any 130 ss v m true w hN (by omega) (by omega) hm hr hs ht)
    obtain ⟨ao, cap, rfl⟩ := rdS_form hr
    have hm1 : (1 : Int) ≤ (m : Int) := by omega
    have hm2 : (m : Int) ≤ (ss.length : Int) := by omega
    clear hs ht hN hp hr h0 hm
    go_enter Tryd.func19, Tryd.ntmps19
    go_wp2_with fail
    (with_reducible refine HP.out.mono ?_)
    rintro e w1 ⟨pv, rfl, hown, hb⟩
    go_wp2_with fail
    go_ret
    exact ⟨_, rfl, hown, hb⟩
end Go.Proofs.YtjfahfecmhnmoaaDoor
