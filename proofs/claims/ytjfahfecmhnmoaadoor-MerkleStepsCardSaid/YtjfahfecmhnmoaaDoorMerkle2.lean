/- The walks of package merkle's Path, up and Check; of pick. -/
import Derived.Test.YtjfahfecmhnmoaaDoorMerkle
namespace Go.Proofs.YtjfahfecmhnmoaaDoor
open Go.RowKit
set_option linter.unusedVariables false
set_option linter.unusedSimpArgs false

/-- A call that answers a new slice of strings. -/
def RetS (w : World) (l : List ByteArray) (e : Ending) (w' : World) : Prop := ∃ v, e = .returned v ∧ w'.ownsRow w.heap.size 9 1 v l.length (svs l) ∧ Below w.heap.size w w'
theorem rdS_owns {w : World} {B : Nat} {v : Value} {ss : List ByteArray} (h : w.ownsRow B 9 1 v ss.length (svs ss)) : rdS w v ss := rdRow_of_owns h
theorem wp_append1 {P : Program} {w w0 : World} {B : Nat} {o : Oper} {a : Act} {K : Act → World → Prop} {Q : Exit → Act → World → Prop} (s x : Operand) (t : TypeId)
    (ho : o.op = .call { callee := .builtin .append, args := #[s, x], argTypes := #[t, t] })
    {base : Nat} {e : TypeId} {z : Value} {bytes : Nat} (hinf : infoIs P e z 1 bytes) (ht : P.underlying t = some (.slice e)) (hzs : z.cells.size = 1) (hby : 0 < bytes)
    {v : Value} {n : Nat} {xs : List Value} (hown : w.ownsRow base e 1 v n xs) (hbel : Below B w0 w) (hB : B ≤ base) (hb : base ≤ w.heap.size)
    {u : Value} (h1 : u.oneCell' = true) (hbytes : (n + 1) * bytes ≤ 140737488355328)
    (hs : a.eval s = v) (hx : a.eval x = .slice (some ⟨w.heap.size, 0, none⟩) 1 1)
    (h : ∀ v' w', w'.ownsRow base e 1 v' (n + 1) (xs ++ [u]) → Below B w0 w' → K (a.put o.dst v') w') : o.wp P a (w.alloc (.cells #[u] e)) K Q := by
  obtain ⟨i, hi, hz, hsize, hbt⟩ := info_parts hinf
  have hle : n + 1 ≤ (n + 1) * bytes := Nat.le_mul_of_pos_right _ hby
  refine wp_append_own _ s x t ho base e i z 1 bytes ht hi hz hsize hbt hzs (by decide) v n xs hs (hown.alloc _) ⟨w.heap.size, 0, none⟩ 1 1 [u] hx (by simp) ?_ (by simpa using h1) (by unfold maxLen; omega) hbytes (by simp; omega) ?_
  · intro j x hj
    rw [addr_add, Nat.zero_add]
    exact cell_block j x (by simpa using hj)
  · intro v' w' hown' hgrow _
    refine h v' w' hown' ?_
    refine (hbel.alloc (by omega) _).grown hgrow (by simp; omega) ?_
    intro k hk
    have := (hown.lt k hk).1; omega
theorem beq_dec (a b : ByteArray) : (a.toList == b.toList) = decide (a = b) := by
  rw [Bool.eq_iff_iff]
  simp only [beq_iff_eq, decide_eq_true_eq]
  constructor
  · intro h
    rw [ByteArray.toList_eq, ByteArray.toList_eq] at h
    exact bs_ext h
  · intro h; rw [h]

set_option maxRecDepth 100000 in
set_option maxHeartbeats 1600000 in
theorem path_any : ∀ (N : Nat) (ss : List ByteArray) (v : Value) (i : Nat) (w : World), ss.length ≤ N → N ≤ 130 → i < ss.length → rdS w v ss → smalls ss → Tab w →
    Calls Tryd.prog 18 #[v, .int .i64 (i : Int)] w (RetS w (pathF ss i)) := by
  intro N
  induction N with
  | zero => intro ss v i w hN _ hi; omega
  | succ N ih =>
    intro ss v i w hN hN130 hi hr hs ht
    by_cases h1 : ss.length = 1
    · have hp : pathF ss i = [] := pathF_none (by omega)
      obtain ⟨ao, cap, rfl⟩ := rdS_form hr
      rw [hp, h1]
      have hi0 : i = 0 := by omega
      subst hi0
      clear hp ht hN hs hr ih h1 hi hN130
      go_enter Tryd.func18, Tryd.ntmps18
      go_wp2_with fail
      go_ret
      exact ⟨_, rfl, World.ownsRow_nil _ _ _ _, Below.refl _ _⟩
    · have h2 : 2 ≤ ss.length := by omega
      have hsp := halfF_spec h2
      obtain ⟨k, hk⟩ : ∃ k, k = halfF ss.length := ⟨_, rfl⟩
      rw [← hk] at hsp
      obtain ⟨v1, e1, r1⟩ := rdS_to hr k (by omega)
      obtain ⟨v2, e2, r2⟩ := rdS_from hr k (by omega)
      have hlen := rdS_len hr
      obtain ⟨ao, cap, rfl⟩ := rdS_form hr
      clear h1
      by_cases hik : i < halfF ss.length
      · have hik' : i < k := by omega
        have hF := pathF_left h2 hik
        rw [← hk] at hF
        have IHP := Lib.hid (fun w' (hb : Below w.heap.size w w') => ih (ss.take k) v1 i w' (by rw [List.length_take]; omega) (by omega) (by rw [List.length_take]; omega) (r1.below hb) (smalls_take hs k) (ht.below hb))
        have IHR := Lib.hid (fun w' (hb : Below w.heap.size w w') => root_any N (ss.drop k) v2 w' (by rw [List.length_drop]; omega) (by omega) (r2.below hb) (smalls_drop hs k) (ht.below hb))
        have HPL := Lib.hid (show (pathF (ss.take k) i).length ≤ 130 by have := pathF_length 8 (ss.take k) i (by rw [List.length_take]; omega); omega)
        obtain ⟨n, hn⟩ : ∃ n, n = ss.length := ⟨_, rfl⟩
        have hi1 : (i : Int) < (n : Int) := by omega
        have hi0 : (0 : Int) ≤ (i : Int) := by omega
        have hki : (i : Int) < (k : Int) := by omega
        rw [← hn] at hsp hlen e1 e2 hk hN h2 ⊢
        obtain ⟨q, hq⟩ : ∃ q, q = pathF ss i := ⟨_, rfl⟩
        rw [← hq] at hF ⊢
        have HF := Lib.hid hF
        have HT := Lib.hid ht
        have E1 := Lib.hid e1
        have E2 := Lib.hid e2
        have HK := Lib.hid hk
        have hk1 := hsp.1
        have hk2 := hsp.2.1
        have HBw := Lib.hid (Below.refl w.heap.size w).drew
        have hn1 : ((n : Int) == 1) = false := by simp; omega
        have hn130 : n ≤ 131 := by omega
        clear hF ht hs hr ih r1 r2 e1 e2 hk hn hq hsp h2 hlen hik hi
        go_enter Tryd.func18, Tryd.ntmps18
        go_wp2_with fail
        refine (half_any n _ (by omega)).mono ?_
        rintro e w0 ⟨rfl, rfl⟩
        rw [← HK.out]
        go_wp2_with fail
        refine Lone.wp_region_order [(0, false), (1, false), (2, false), (3, false), (5, false), (6, false), (7, false), (4, true), (8, true), (9, true), (10, true), (11, false)] (fun w' => True) (by kernel_rfl) (by kernel_rfl) rfl (by kernel_rfl) (by intro _ _ d _ _ h; cases d <;> exact h) (trivial) ?_; simp only [List.map_cons, List.map_nil, List.getElem?_toArray, List.getElem?_cons_zero, List.getElem?_cons_succ, Option.getD_some]
        repeat (first | (refine Lone.ro_q (by rfl) (v := ?_) ?_ ?_; rotate_left; (focus (intro w' hSw; (try dsimp only at hSw); go_simp; try with_reducible rfl)); simp only [Act.put, List.setIfInBounds_toArray, List.set_cons_zero, List.set_cons_succ]) | (refine Lone.ro_skip (by rfl) ?_; simp only [Act.put, List.setIfInBounds_toArray, List.set_cons_zero, List.set_cons_succ]))
        refine Lone.ro_q (by rfl) (v := v1) (fun w' hSw => by simp only [execOp, Act.eval, List.getElem?_toArray, List.getElem?_cons_zero, List.getElem?_cons_succ, Array.getD_eq_getD_getElem?, Option.getD_some, Option.map_some, Option.map_none, Sem.run_bind, E1.out, Result.andThen, Sem.run_pure]) ?_; simp only [Act.put, List.setIfInBounds_toArray, List.set_cons_zero, List.set_cons_succ]
        repeat (first | (refine Lone.ro_q (by rfl) (v := ?_) ?_ ?_; rotate_left; (focus (intro w' hSw; (try dsimp only at hSw); go_simp; try with_reducible rfl)); simp only [Act.put, List.setIfInBounds_toArray, List.set_cons_zero, List.set_cons_succ]) | (refine Lone.ro_skip (by rfl) ?_; simp only [Act.put, List.setIfInBounds_toArray, List.set_cons_zero, List.set_cons_succ]))
        refine Lone.ro_q (by rfl) (v := v2) (fun w' hSw => by simp only [execOp, Act.eval, List.getElem?_toArray, List.getElem?_cons_zero, List.getElem?_cons_succ, Array.getD_eq_getD_getElem?, Option.getD_some, Option.map_some, Option.map_none, Sem.run_bind, E2.out, Result.andThen, Sem.run_pure]) ?_; simp only [Act.put, List.setIfInBounds_toArray, List.set_cons_zero, List.set_cons_succ]
        repeat (first | (refine Lone.ro_q (by rfl) (v := ?_) ?_ ?_; rotate_left; (focus (intro w' hSw; (try dsimp only at hSw); go_simp; try with_reducible rfl)); simp only [Act.put, List.setIfInBounds_toArray, List.set_cons_zero, List.set_cons_succ]) | (refine Lone.ro_skip (by rfl) ?_; simp only [Act.put, List.setIfInBounds_toArray, List.set_cons_zero, List.set_cons_succ]))
        (refine Lone.ro_loud (by rfl) (fun K hK => ?_); go_simp)
        refine (IHP.out _ HBw.out).mono ?_
        rintro e w1 ⟨pv, rfl, hown, hb⟩
        have HB1 := Lib.hid (HBw.out.trans (hb.mono HBw.out.size))
        clear hb
        (refine hK.out _ _ (fun w' => True) (.inl fun _ h => h) (trivial) ?_; clear hK K; try simp only [Act.put, List.setIfInBounds_toArray, List.set_cons_zero, List.set_cons_succ])
        repeat (first | (refine Lone.ro_q (by rfl) (v := ?_) ?_ ?_; rotate_left; (focus (intro w' hSw; (try dsimp only at hSw); go_simp; try with_reducible rfl)); simp only [Act.put, List.setIfInBounds_toArray, List.set_cons_zero, List.set_cons_succ]) | (refine Lone.ro_skip (by rfl) ?_; simp only [Act.put, List.setIfInBounds_toArray, List.set_cons_zero, List.set_cons_succ]))
        (refine Lone.ro_loud (by rfl) (fun K hK => ?_); go_simp)
        refine (IHR.out _ HB1.out).mono ?_
        rintro e w2 ⟨rfl, hb⟩
        have OW2 := owns_below hown hb
        have HB2 := Lib.hid (HB1.out.trans (hb.mono HB1.out.size))
        clear hb hown
        (refine hK.out _ _ (fun w' => True) (.inl fun _ h => h) (trivial) ?_; clear hK K; try simp only [Act.put, List.setIfInBounds_toArray, List.set_cons_zero, List.set_cons_succ])
        repeat (first | (refine Lone.ro_q (by rfl) (v := ?_) ?_ ?_; rotate_left; (focus (intro w' hSw; (try dsimp only at hSw); go_simp; try with_reducible rfl)); simp only [Act.put, List.setIfInBounds_toArray, List.set_cons_zero, List.set_cons_succ]) | (refine Lone.ro_skip (by rfl) ?_; simp only [Act.put, List.setIfInBounds_toArray, List.set_cons_zero, List.set_cons_succ]))
        (refine Lone.ro_loud (by rfl) (fun K hK => ?_); go_simp)
        (refine hK.out _ _ (fun w' => True) (.inl fun _ h => h) (trivial) ?_; clear hK K; try simp only [Act.put, List.setIfInBounds_toArray, List.set_cons_zero, List.set_cons_succ])
        repeat (first | (refine Lone.ro_q (by rfl) (v := ?_) ?_ ?_; rotate_left; (focus (intro w' hSw; (try dsimp only at hSw); go_simp; try with_reducible rfl)); simp only [Act.put, List.setIfInBounds_toArray, List.set_cons_zero, List.set_cons_succ]) | (refine Lone.ro_skip (by rfl) ?_; simp only [Act.put, List.setIfInBounds_toArray, List.set_cons_zero, List.set_cons_succ]))
        refine Lone.ro_loud (by rfl) (fun K hK => ?_)
        refine wp_append1 (.tmp 29) (.tmp 34) 22 rfl info_string Tryd.underlying22 rfl (by decide) (owns_base OW2 (Nat.le_refl w.heap.size)) HB2.out (Nat.le_refl _) HB2.out.size rfl (by have := HPL.out; omega) rfl rfl ?_
        intro v' w4 hown' hB'
        (refine hK.out _ _ (fun w' => True) (.inl fun _ h => h) (trivial) ?_; clear hK K; try simp only [Act.put, List.setIfInBounds_toArray, List.set_cons_zero, List.set_cons_succ])
        repeat (first | (refine Lone.ro_q (by rfl) (v := ?_) ?_ ?_; rotate_left; (focus (intro w' hSw; (try dsimp only at hSw); go_simp; try with_reducible rfl)); simp only [Act.put, List.setIfInBounds_toArray, List.set_cons_zero, List.set_cons_succ]) | (refine Lone.ro_skip (by rfl) ?_; simp only [Act.put, List.setIfInBounds_toArray, List.set_cons_zero, List.set_cons_succ]))
        (refine Lone.ro_nil ?_; go_wp2_with fail)
        go_ret
        exact ⟨_, rfl, by rw [HF.out, List.length_append, svs_append]; exact hown', hB'⟩
      · have hik' : k ≤ i := by omega
        have hF := pathF_right h2 hik hi
        rw [← hk] at hF
        have IHP := Lib.hid (fun w' (hb : Below w.heap.size w w') => ih (ss.drop k) v2 (i - k) w' (by rw [List.length_drop]; omega) (by omega) (by rw [List.length_drop]; omega) (r2.below hb) (smalls_drop hs k) (ht.below hb))
        have IHR := Lib.hid (fun w' (hb : Below w.heap.size w w') => root_any N (ss.take k) v1 w' (by rw [List.length_take]; omega) (by omega) (r1.below hb) (smalls_take hs k) (ht.below hb))
        have HPL := Lib.hid (show (pathF (ss.drop k) (i - k)).length ≤ 130 by have := pathF_length 8 (ss.drop k) (i - k) (by rw [List.length_drop]; omega); omega)
        obtain ⟨n, hn⟩ : ∃ n, n = ss.length := ⟨_, rfl⟩
        have hi1 : (i : Int) < (n : Int) := by omega
        have hi0 : (0 : Int) ≤ (i : Int) := by omega
        have hki : (k : Int) ≤ (i : Int) := by omega
        have hsub : IntKind.i64.wrap ((i : Int) - (k : Int)) = ((i - k : Nat) : Int) := by rw [IntWalk.i64_in _ (by omega)]; omega
        have HSUB := Lib.hid hsub
        clear hsub
        rw [← hn] at hsp hlen e1 e2 hk hN h2 ⊢
        obtain ⟨q, hq⟩ : ∃ q, q = pathF ss i := ⟨_, rfl⟩
        rw [← hq] at hF ⊢
        have HF := Lib.hid hF
        have HT := Lib.hid ht
        have E1 := Lib.hid e1
        have E2 := Lib.hid e2
        have HK := Lib.hid hk
        have hk1 := hsp.1
        have hk2 := hsp.2.1
        have HBw := Lib.hid (Below.refl w.heap.size w).drew
        have hn1 : ((n : Int) == 1) = false := by simp; omega
        have hn130 : n ≤ 131 := by omega
        clear hF ht hs hr ih r1 r2 e1 e2 hk hn hq hsp h2 hlen hik hi
        go_enter Tryd.func18, Tryd.ntmps18
        go_wp2_with fail
        refine (half_any n _ (by omega)).mono ?_
        rintro e w0 ⟨rfl, rfl⟩
        rw [← HK.out]
        go_wp2_with fail
        have hsub := HSUB.out
        refine Lone.wp_region_order [(0, false), (1, false), (2, false), (3, false), (4, false), (5, false), (7, false), (8, false), (9, false), (6, true), (10, true), (11, true), (12, true), (13, false)] (fun w' => True) (by kernel_rfl) (by kernel_rfl) rfl (by kernel_rfl) (by intro _ _ d _ _ h; cases d <;> exact h) (trivial) ?_; simp only [List.map_cons, List.map_nil, List.getElem?_toArray, List.getElem?_cons_zero, List.getElem?_cons_succ, Option.getD_some]
        repeat (first | (refine Lone.ro_q (by rfl) (v := ?_) ?_ ?_; rotate_left; (focus (intro w' hSw; (try dsimp only at hSw); go_simp; try with_reducible rfl)); simp only [Act.put, List.setIfInBounds_toArray, List.set_cons_zero, List.set_cons_succ]) | (refine Lone.ro_skip (by rfl) ?_; simp only [Act.put, List.setIfInBounds_toArray, List.set_cons_zero, List.set_cons_succ]))
        refine Lone.ro_q (by rfl) (v := v2) (fun w' hSw => by simp only [execOp, Act.eval, List.getElem?_toArray, List.getElem?_cons_zero, List.getElem?_cons_succ, Array.getD_eq_getD_getElem?, Option.getD_some, Option.map_some, Option.map_none, Sem.run_bind, E2.out, Result.andThen, Sem.run_pure]) ?_; simp only [Act.put, List.setIfInBounds_toArray, List.set_cons_zero, List.set_cons_succ]
        repeat (first | (refine Lone.ro_q (by rfl) (v := ?_) ?_ ?_; rotate_left; (focus (intro w' hSw; (try dsimp only at hSw); go_simp; try with_reducible rfl)); simp only [Act.put, List.setIfInBounds_toArray, List.set_cons_zero, List.set_cons_succ]) | (refine Lone.ro_skip (by rfl) ?_; simp only [Act.put, List.setIfInBounds_toArray, List.set_cons_zero, List.set_cons_succ]))
        refine Lone.ro_q (by rfl) (v := v1) (fun w' hSw => by simp only [execOp, Act.eval, List.getElem?_toArray, List.getElem?_cons_zero, List.getElem?_cons_succ, Array.getD_eq_getD_getElem?, Option.getD_some, Option.map_some, Option.map_none, Sem.run_bind, E1.out, Result.andThen, Sem.run_pure]) ?_; simp only [Act.put, List.setIfInBounds_toArray, List.set_cons_zero, List.set_cons_succ]
        repeat (first | (refine Lone.ro_q (by rfl) (v := ?_) ?_ ?_; rotate_left; (focus (intro w' hSw; (try dsimp only at hSw); go_simp; try with_reducible rfl)); simp only [Act.put, List.setIfInBounds_toArray, List.set_cons_zero, List.set_cons_succ]) | (refine Lone.ro_skip (by rfl) ?_; simp only [Act.put, List.setIfInBounds_toArray, List.set_cons_zero, List.set_cons_succ]))
        (refine Lone.ro_loud (by rfl) (fun K hK => ?_); go_simp)
        clear hsub
        (with_reducible refine (IHP.out _ HBw.out).mono ?_)
        rintro e w1 ⟨pv, rfl, hown, hb⟩
        have HB1 := Lib.hid (HBw.out.trans (hb.mono HBw.out.size))
        clear hb
        (refine hK.out _ _ (fun w' => True) (.inl fun _ h => h) (trivial) ?_; clear hK K; try simp only [Act.put, List.setIfInBounds_toArray, List.set_cons_zero, List.set_cons_succ])
        repeat (first | (refine Lone.ro_q (by rfl) (v := ?_) ?_ ?_; rotate_left; (focus (intro w' hSw; (try dsimp only at hSw); go_simp; try with_reducible rfl)); simp only [Act.put, List.setIfInBounds_toArray, List.set_cons_zero, List.set_cons_succ]) | (refine Lone.ro_skip (by rfl) ?_; simp only [Act.put, List.setIfInBounds_toArray, List.set_cons_zero, List.set_cons_succ]))
        (refine Lone.ro_loud (by rfl) (fun K hK => ?_); go_simp)
        refine (IHR.out _ HB1.out).mono ?_
        rintro e w2 ⟨rfl, hb⟩
        have OW2 := owns_below hown hb
        have HB2 := Lib.hid (HB1.out.trans (hb.mono HB1.out.size))
        clear hb hown
        (refine hK.out _ _ (fun w' => True) (.inl fun _ h => h) (trivial) ?_; clear hK K; try simp only [Act.put, List.setIfInBounds_toArray, List.set_cons_zero, List.set_cons_succ])
        repeat (first | (refine Lone.ro_q (by rfl) (v := ?_) ?_ ?_; rotate_left; (focus (intro w' hSw; (try dsimp only at hSw); go_simp; try with_reducible rfl)); simp only [Act.put, List.setIfInBounds_toArray, List.set_cons_zero, List.set_cons_succ]) | (refine Lone.ro_skip (by rfl) ?_; simp only [Act.put, List.setIfInBounds_toArray, List.set_cons_zero, List.set_cons_succ]))
        (refine Lone.ro_loud (by rfl) (fun K hK => ?_); go_simp)
        (refine hK.out _ _ (fun w' => True) (.inl fun _ h => h) (trivial) ?_; clear hK K; try simp only [Act.put, List.setIfInBounds_toArray, List.set_cons_zero, List.set_cons_succ])
        repeat (first | (refine Lone.ro_q (by rfl) (v := ?_) ?_ ?_; rotate_left; (focus (intro w' hSw; (try dsimp only at hSw); go_simp; try with_reducible rfl)); simp only [Act.put, List.setIfInBounds_toArray, List.set_cons_zero, List.set_cons_succ]) | (refine Lone.ro_skip (by rfl) ?_; simp only [Act.put, List.setIfInBounds_toArray, List.set_cons_zero, List.set_cons_succ]))
        refine Lone.ro_loud (by rfl) (fun K hK => ?_)
        refine wp_append1 (.tmp 42) (.tmp 47) 22 rfl info_string Tryd.underlying22 rfl (by decide) (owns_base OW2 (Nat.le_refl w.heap.size)) HB2.out (Nat.le_refl _) HB2.out.size rfl (by have := HPL.out; omega) rfl rfl ?_
        intro v' w4 hown' hB'
        (refine hK.out _ _ (fun w' => True) (.inl fun _ h => h) (trivial) ?_; clear hK K; try simp only [Act.put, List.setIfInBounds_toArray, List.set_cons_zero, List.set_cons_succ])
        repeat (first | (refine Lone.ro_q (by rfl) (v := ?_) ?_ ?_; rotate_left; (focus (intro w' hSw; (try dsimp only at hSw); go_simp; try with_reducible rfl)); simp only [Act.put, List.setIfInBounds_toArray, List.set_cons_zero, List.set_cons_succ]) | (refine Lone.ro_skip (by rfl) ?_; simp only [Act.put, List.setIfInBounds_toArray, List.set_cons_zero, List.set_cons_succ]))
        (refine Lone.ro_nil ?_; go_wp2_with fail)
        go_ret
        exact ⟨_, rfl, by rw [HF.out, List.length_append, svs_append]; exact hown', hB'⟩

set_option maxRecDepth 100000 in
set_option maxHeartbeats 1600000 in
theorem up_any : ∀ (N : Nat) (leaf : ByteArray) (n i : Nat) (ps : List ByteArray) (v : Value) (w : World), n ≤ N → N ≤ 1099511627776 → 1 ≤ n → i < n → leaf.size = 32 → rdS w v ps → smalls ps → Tab w →
    Calls Tryd.prog 24 #[.string leaf, .int .i64 (n : Int), .int .i64 (i : Int), v] w fun e w' => e = .returned (.tuple #[.string (upF leaf n i ps).1, .bool (upF leaf n i ps).2]) ∧ Below w.heap.size w w' := by
  intro N
  induction N with
  | zero => intro leaf n i ps v w h1 _ h2; omega
  | succ N ih =>
    intro leaf n i ps v w hN hN40 h1 hi hlf hr hsm ht
    by_cases h2 : 2 ≤ n
    · rcases snoc_cases ps with rfl | ⟨q, x, rfl⟩
      · rw [upF_nil _ _ h2]
        obtain ⟨ao, cap, rfl⟩ := rdS_form hr
        have hn1 : ((n : Int) == 1) = false := by simp; omega
        clear ht hN hr ih hsm hlf h1 hi
        go_enter Tryd.func24, Tryd.ntmps24
        go_wp2_with fail
        go_ret2
        exact ⟨rfl, Below.refl _ _⟩
      · have hsp := halfF_spec h2
        obtain ⟨k, hk⟩ : ∃ k, k = halfF n := ⟨_, rfl⟩
        obtain ⟨m, hm⟩ : ∃ m, m = q.length := ⟨_, rfl⟩
        have hml : (q ++ [x]).length = m + 1 := by simp [hm]
        have hlen := rdS_len hr
        obtain ⟨v1, e1, r1⟩ := rdS_to hr m (by omega)
        have hq : (q ++ [x]).take m = q := by rw [hm]; simp
        have hxm : (q ++ [x]).getD m ⟨#[]⟩ = x := by rw [hm]; simp
        rw [hq] at r1
        obtain ⟨b, off, cap, rfl, hc, hbl⟩ := rdS_at hr m (by omega)
        rw [hxm] at hc
        have hx : x.size ≤ 140737488355328 := hsm x (by simp)
        have hsq : smalls q := fun y hy => hsm y (by simp [hy])
        rw [hml] at hr e1 hlen ⊢
        clear hq hxm hml hm
        rw [← hk] at hsp
        have hN40 : N ≤ 1099511627776 := by omega
        by_cases hik : i < halfF n
        · have hik' : i < k := by omega
          have hF := upF_left leaf (n := n) (i := i) (p := q) (x := x) h2 hik
          rw [← hk] at hF
          have IHU := Lib.hid (fun w' (hb : Below w.heap.size w w') => ih leaf k i q v1 w' (by omega) hN40 (by omega) (by omega) hlf (r1.below hb) hsq (ht.below hb))
          have hu := upF_small leaf hlf k i q
          have hkc : (i : Int) < (k : Int) := by omega
          obtain ⟨r, hr0⟩ : ∃ r, r = upF leaf n i (q ++ [x]) := ⟨_, rfl⟩
          rw [← hr0] at hF ⊢
          have HF := Lib.hid hF
          have HT := Lib.hid ht
          have HK := Lib.hid hk
          have E1 := Lib.hid e1
          have hk1 := hsp.1
          have hk2 := hsp.2.1
          obtain ⟨u, hu0⟩ : ∃ u, u = upF leaf k i q := ⟨_, rfl⟩
          rw [← hu0] at hu
          have HU := Lib.hid hu0
          have hub : u.1.size ≤ 140737488355328 := Nat.le_trans hu (by decide)
          have hn1 : ((n : Int) == 1) = false := by simp; omega
          have hl0 : ((m : Int) + 1 == 0) = false := by simp; omega
          have hm0 : decide ((m : Int) + 1 = 0) = false := by simp; omega
          
          have hn40 : n ≤ 1099511627776 := by omega
          have hin : i < n := hi
          have HBw := Lib.hid (Below.refl w.heap.size w)
          clear hF ht ih r1 e1 hk hr0 hu0 hsp h2 hsm hsq hi hr
          go_enter Tryd.func24, Tryd.ntmps24
          go_wp2_with (first | (refine wpList_slice (by rfl) 22 (.tmp 31) none (some (.tmp 34)) rfl (v' := v1) E1.out ?_))
          refine (half_any n _ (by omega)).mono ?_
          rintro e w0 ⟨rfl, rfl⟩
          rw [← HK.out]
          go_wp2_with fail
          
          (with_reducible refine (IHU.out _ HBw.out).mono ?_)
          rintro e w1 ⟨rfl, hb⟩
          rw [← HU.out]
          have HB1 := Lib.hid hb
          clear hb
          go_wp2_with fail
          refine (node_any u.1 x _ hub hx (HT.out.below HB1.out)).mono ?_
          rintro e w2 ⟨rfl, hb⟩
          have HB2 := Lib.hid (HB1.out.trans (hb.mono HB1.out.size))
          clear hb
          go_wp2_with fail
          go_ret2
          exact ⟨(by rw [HF.out, ← HU.out]; rfl), HB2.out⟩
        · have hik' : k ≤ i := by omega
          have hF := upF_right leaf (n := n) (i := i) (p := q) (x := x) h2 hik
          rw [← hk] at hF
          have IHU := Lib.hid (fun w' (hb : Below w.heap.size w w') => ih leaf (n - k) (i - k) q v1 w' (by omega) hN40 (by omega) (by omega) hlf (r1.below hb) hsq (ht.below hb))
          have hu := upF_small leaf hlf (n - k) (i - k) q
          have hkc : (k : Int) ≤ (i : Int) := by omega
          obtain ⟨r, hr0⟩ : ∃ r, r = upF leaf n i (q ++ [x]) := ⟨_, rfl⟩
          rw [← hr0] at hF ⊢
          have HF := Lib.hid hF
          have HT := Lib.hid ht
          have HK := Lib.hid hk
          have E1 := Lib.hid e1
          have hk1 := hsp.1
          have hk2 := hsp.2.1
          obtain ⟨u, hu0⟩ : ∃ u, u = upF leaf (n - k) (i - k) q := ⟨_, rfl⟩
          rw [← hu0] at hu
          have HU := Lib.hid hu0
          have hub : u.1.size ≤ 140737488355328 := Nat.le_trans hu (by decide)
          have hn1 : ((n : Int) == 1) = false := by simp; omega
          have hl0 : ((m : Int) + 1 == 0) = false := by simp; omega
          have hm0 : decide ((m : Int) + 1 = 0) = false := by simp; omega
          have hs1 : (n : Int) - (k : Int) = ((n - k : Nat) : Int) := by omega
          have hs2 : (i : Int) - (k : Int) = ((i - k : Nat) : Int) := by omega
          have HS1 := Lib.hid hs1
          have HS2 := Lib.hid hs2
          clear hs1 hs2
          have hn40 : n ≤ 1099511627776 := by omega
          have hin : i < n := hi
          have HBw := Lib.hid (Below.refl w.heap.size w)
          clear hF ht ih r1 e1 hk hr0 hu0 hsp h2 hsm hsq hi hr
          go_enter Tryd.func24, Tryd.ntmps24
          go_wp2_with (first | (refine wpList_slice (by rfl) 22 (.tmp 31) none (some (.tmp 34)) rfl (v' := v1) E1.out ?_))
          refine (half_any n _ (by omega)).mono ?_
          rintro e w0 ⟨rfl, rfl⟩
          rw [← HK.out]
          go_wp2_with fail
          rw [HS1.out, HS2.out]
          (with_reducible refine (IHU.out _ HBw.out).mono ?_)
          rintro e w1 ⟨rfl, hb⟩
          rw [← HU.out]
          have HB1 := Lib.hid hb
          clear hb
          go_wp2_with fail
          refine (node_any x u.1 _ hx hub (HT.out.below HB1.out)).mono ?_
          rintro e w2 ⟨rfl, hb⟩
          have HB2 := Lib.hid (HB1.out.trans (hb.mono HB1.out.size))
          clear hb
          go_wp2_with fail
          go_ret2
          exact ⟨(by rw [HF.out, ← HU.out]; rfl), HB2.out⟩
    · rw [upF_one _ _ _ h2]
      obtain ⟨ao, cap, rfl⟩ := rdS_form hr
      have hn : n = 1 := by omega
      subst hn
      cases ps with
      | nil =>
        clear ht hN hr ih hsm hlf h1 hi h2
        go_enter Tryd.func24, Tryd.ntmps24
        go_wp2_with fail
        go_ret2
        exact ⟨rfl, Below.refl _ _⟩
      | cons y ys =>
        have hl0 : ((ys.length : Int) + 1 == 0) = false := by simp; omega
        have hm0 : decide ((ys.length : Int) + 1 = 0) = false := by simp; omega
        clear ht hN hr ih hsm hlf h1 hi h2
        go_enter Tryd.func24, Tryd.ntmps24
        go_wp2_with fail
        go_ret2
        exact ⟨rfl, Below.refl _ _⟩
end Go.Proofs.YtjfahfecmhnmoaaDoor
