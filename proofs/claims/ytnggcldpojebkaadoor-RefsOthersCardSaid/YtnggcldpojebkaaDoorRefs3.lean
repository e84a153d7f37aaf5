/- slices.Insert and slices.Delete at elements of several cells, in rows of the call's own. -/
import Derived.Test.YtnggcldpojebkaaDoorRefs2
import Derived.Test.YtnggcldpojebkaaDoorRowk
import Derived.Test.YtnggcldpojebkaaDoorSlice
import Derived.Test.YtnggcldpojebkaaDoorRegion2
namespace Go.Proofs.YtnggcldpojebkaaDoor
open Go.RowKit
set_option linter.unusedVariables false
set_option linter.unusedSimpArgs false

theorem rf_info : infoIs Tryd.prog 33 (Value.agg #[.string ⟨#[]⟩, .string ⟨#[]⟩]) 2 32 := by unfold infoIs; kernel_rfl
theorem rf_size : (Tryd.prog.info? 33).map (·.size) = some 2 := by kernel_rfl
theorem rf_zero : ∀ w, (zeroValue 33).run Tryd.prog w = .ok ((Value.agg #[.string ⟨#[]⟩, .string ⟨#[]⟩])) w := Tryd.zeroValue33
theorem rf_zone : ∀ u ∈ ((Value.agg #[.string ⟨#[]⟩, .string ⟨#[]⟩]) : Value).cells.toList, u.oneCell' = true := by decide
set_option maxRecDepth 100000 in
set_option maxHeartbeats 3200000 in
theorem rf_del (n k : Nat) (v : Value) (xs : List Value) (w : World) (base : Nat) (j : Int) (hj : j = (k : Int) + 1) (hk : k < n) (hown : w.ownsRow base 33 2 v n xs) (h1 : ∀ u ∈ xs, u.oneCell' = true) :
    Calls Tryd.prog 13 #[v, .int .i64 (k : Int), .int .i64 j] w fun e w' => ∃ v', e = .returned v' ∧ w'.ownsRow base 33 2 v' (n - 1) (xs.take (k * 2) ++ xs.drop ((k + 1) * 2)) ∧ Upd (fun b => v.ownBlock = some b) w w' ∧ v'.ownBlock = v.ownBlock := by
  obtain ⟨hxl, ⟨_, h0⟩ | ⟨g, cap, cur, rfl, hbg, hg, hnc, hcm, hcs, htake⟩⟩ := hown
  · omega
  subst hj
  have hcm' : cap ≤ 9223372036854775807 := by unfold maxLen at hcm; omega
  have f0 : (0 : Int) ≤ (k : Int) + 1 := by omega
  have f1 : (k : Int) ≤ (k : Int) + 1 := by omega
  have f2 : (k : Int) + 1 ≤ (n : Int) := by omega
  have f6 : (k : Int) ≤ (cap : Int) := by omega
  have f7 : (k : Int) ≤ (n : Int) := by omega
  have f8 : (n : Int) ≤ (cap : Int) := by omega
  have f9 : k ≤ cap := by omega
  have f10 : k + 1 ≤ n := by omega
  have f3 : ((k : Int) + 1).toNat = k + 1 := by omega
  have f4 : ¬ ((k : Int) = (k : Int) + 1) := by omega
  have f5 : ((k : Int) == (k : Int) + 1) = false := beq_eq_false_iff_ne.2 f4
  have f11 : ¬ cap = k := by omega
  have f12 : ¬ cap = n - 1 := by omega
  have f13 : k + (n - (k + 1)) = n - 1 := by omega
  have HCELL := Lib.hid (cells_of_row hg htake)
  have HL := Lib.hid (del_list' cur.toList xs 2 k n cap hk hnc (by simpa using hcs) htake)
  have HB := Lib.hid hbg
  have HM := Lib.hid hcm
  have HS := Lib.hid (show cur.toList.length = cap * 2 by simpa using hcs)
  have H1 := Lib.hid h1
  have HG := Lib.hid hg
  have HX := Lib.hid hxl
  have HT := Lib.hid htake
  clear hcs htake hxl h1 hbg hcm hg
  have fin : ∀ (w2 w3 : World) (cur2 cur3 : Array Value), cur2.toList.length = cap * 2 → cur2.toList.take ((n - 1) * 2) = xs.take (k * 2) ++ xs.drop ((k + 1) * 2) → Upd (· = g) w w2 → Upd (· = g) w2 w3 →
      cur3 = (cur2.toList.take ((n - 1) * 2) ++ (Builtin.zeroCells ((Value.agg #[.string ⟨#[]⟩, .string ⟨#[]⟩]) : Value).cells 1).toList ++ cur2.toList.drop ((n - 1) * 2 + 1 * ((Value.agg #[.string ⟨#[]⟩, .string ⟨#[]⟩]) : Value).cells.size)).toArray → w3.heap[g]? = some (.cells cur3 33 (0, 0)) →
      w3.ownsRow base 33 2 (.slice (some ⟨g, 0, none⟩) (n - 1) cap) (n - 1) (xs.take (k * 2) ++ xs.drop ((k + 1) * 2)) ∧ Upd (fun b => (Value.slice (some ⟨g, 0, none⟩) n cap).ownBlock = some b) w w3 := by
    intro w2 w3 cur2 cur3 h2 h3 u2 u3 h4 h5
    have hzl : (Builtin.zeroCells ((Value.agg #[.string ⟨#[]⟩, .string ⟨#[]⟩]) : Value).cells 1).toList.length = 1 * ((Value.agg #[.string ⟨#[]⟩, .string ⟨#[]⟩]) : Value).cells.size := by rw [Array.length_toList, size_zeroCells]
    have hzc : ((Value.agg #[.string ⟨#[]⟩, .string ⟨#[]⟩]) : Value).cells.size = 2 := rfl
    have hfit : (n - 1) * 2 + (Builtin.zeroCells ((Value.agg #[.string ⟨#[]⟩, .string ⟨#[]⟩]) : Value).cells 1).toList.length ≤ cur2.toList.length := by rw [hzl, hzc, h2]; have := HL.out.2.2.1; omega
    rw [← hzl] at h4
    refine ⟨⟨?_, .inr ⟨g, cap, cur3, rfl, HB.out, h5, by omega, HM.out, ?_, ?_⟩⟩, (u2.trans u3).mono fun i hi => by subst hi; rfl⟩
    · rw [List.length_append, HL.out.1, List.length_take, HX.out]; omega
    · have := len_splice3 _ _ _ hfit
      rw [← h2, ← this, h4]; simp
    · rw [h4, List.toList_toArray, take_splice3' _ _ _ hfit, h3]
  have FIN := Lib.hid fin
  clear fin
  by_cases hz : cap = k + 1
  · obtain rfl : n = k + 1 := by omega
    subst hz
    go_enter Tryd.func13, Tryd.ntmps13
    go_wp2_with fail
    refine Lone.wp_region_order [(0, false), (1, false), (2, false), (3, false), (4, false), (5, false), (6, true), (7, false)] (fun _ => True) (by kernel_rfl) (by kernel_rfl) rfl (by kernel_rfl) (by intro _ _ d _ _ h; cases d <;> exact h) (trivial) ?_; simp only [List.map_cons, List.map_nil, List.getElem?_toArray, List.getElem?_cons_zero, List.getElem?_cons_succ, Option.getD_some]
    repeat (first | (refine Lone.ro_q (by rfl) (v := ?_) ?_ ?_; rotate_left; (focus (intro w' hSw; (try dsimp only at hSw); go_simp; try with_reducible rfl)); simp only [Act.put, List.setIfInBounds_toArray, List.set_cons_zero, List.set_cons_succ]) | (refine Lone.ro_skip (by rfl) ?_; simp only [Act.put, List.setIfInBounds_toArray, List.set_cons_zero, List.set_cons_succ]))
    (refine Lone.ro_loud (by rfl) (fun K hK => ?_))
    refine wp_append_roomK (.tmp 22) (.tmp 25) 22 rfl 33 2 Tryd.underlying22 rf_size g k _ (by rfl) ⟨g, 0, none⟩ _ _ (by rfl) cur (show w.drew.heap[g]? = _ from HG.out) (xs.drop ((k + 1) * 2)) ?cl ?cn ?co ?cr ?cf ?_
    case cl => (have := HL.out.1; first | exact this | (simp at this ⊢; omega))
    case cn => (intro j u hu; have := (List.getElem?_eq_some_iff.1 hu).1; rw [HL.out.1] at this; omega)
    case co => exact fun u hu => H1.out u (List.mem_of_mem_drop hu)
    case cr => omega
    case cf => (rw [HL.out.1, ← Array.length_toList, HS.out]; exact HL.out.2.1)
    intro w2 h2 u2
    have u2' : Upd (· = g) w w2 := ⟨u2.os, u2.tape, u2.output, u2.size, u2.block⟩
    obtain ⟨c2, hc2⟩ : ∃ c2 : Array Value, c2 = (cur.toList.take (k * 2) ++ xs.drop ((k + 1) * 2) ++ cur.toList.drop (k * 2 + (xs.drop ((k + 1) * 2)).length)).toArray := ⟨_, rfl⟩
    rw [← hc2] at h2
    have HC2 := Lib.hid (show c2.toList.length = (k + 1) * 2 ∧ c2.toList.take (((k + 1) - 1) * 2) = xs.take (k * 2) ++ xs.drop ((k + 1) * 2) by rw [hc2]; exact HL.out.2.2.2)
    have HU2 := Lib.hid u2'
    clear hc2 u2 u2'
    skip
    (refine hK.out _ _ (fun _ => True) (.inl fun _ h => h) (trivial) ?_; clear hK K; try simp only [Act.put, List.setIfInBounds_toArray, List.set_cons_zero, List.set_cons_succ])
    repeat (first | (refine Lone.ro_q (by rfl) (v := ?_) ?_ ?_; rotate_left; (focus (intro w' hSw; (try dsimp only at hSw); go_simp; try with_reducible rfl)); simp only [Act.put, List.setIfInBounds_toArray, List.set_cons_zero, List.set_cons_succ]) | (refine Lone.ro_skip (by rfl) ?_; simp only [Act.put, List.setIfInBounds_toArray, List.set_cons_zero, List.set_cons_succ]))
    refine Lone.ro_nil ?_
    go_wp2_with fail
    have hr := run_clear_rowK (P := Tryd.prog) w2 22 33 0 (Value.agg #[.string ⟨#[]⟩, .string ⟨#[]⟩]) Tryd.underlying22 rf_zero rf_zone g (k * 2) 1 (1) (by omega) c2 33 h2 (by have h1 := HC2.out.1; rw [Array.length_toList] at h1; have := HL.out.2.2.1; have hz : ((Value.agg #[.string ⟨#[]⟩, .string ⟨#[]⟩]) : Value).cells.size = 2 := rfl; rw [hz, h1]; omega)
    obtain ⟨w3, hw3⟩ : ∃ w3, w3 = w2.setRow g (c2.toList.take (k * 2) ++ (Builtin.zeroCells ((Value.agg #[.string ⟨#[]⟩, .string ⟨#[]⟩]) : Value).cells 1).toList ++ c2.toList.drop (k * 2 + 1 * ((Value.agg #[.string ⟨#[]⟩, .string ⟨#[]⟩]) : Value).cells.size)).toArray := ⟨_, rfl⟩
    have h3 := setRow_heap w2 g c2 (c2.toList.take (k * 2) ++ (Builtin.zeroCells ((Value.agg #[.string ⟨#[]⟩, .string ⟨#[]⟩]) : Value).cells 1).toList ++ c2.toList.drop (k * 2 + 1 * ((Value.agg #[.string ⟨#[]⟩, .string ⟨#[]⟩]) : Value).cells.size)).toArray 33 (0, 0) h2
    have u3 : Upd (· = g) w2 w3 := by rw [hw3]; exact upd_setRow _
    skip
    rw [← hw3] at h3 hr
    rw [hr]
    simp only [Result.andThen]
    rw [Oper.upon_value]
    have hf := FIN.out w2 w3 c2 _ HC2.out.1 HC2.out.2 HU2.out u3 rfl h3
    have HF := Lib.hid hf
    clear hf hr h3 u3 hw3 h2
    go_wp2_with fail
    go_ret
    exact ⟨_, rfl, HF.out.1, HF.out.2, rfl⟩
  · have hz2 : ¬ (k + 1 = cap) := by omega
    go_enter Tryd.func13, Tryd.ntmps13
    go_wp2_with fail
    refine Lone.wp_region_order [(0, false), (1, false), (2, false), (3, false), (4, false), (5, false), (6, true), (7, false)] (fun _ => True) (by kernel_rfl) (by kernel_rfl) rfl (by kernel_rfl) (by intro _ _ d _ _ h; cases d <;> exact h) (trivial) ?_; simp only [List.map_cons, List.map_nil, List.getElem?_toArray, List.getElem?_cons_zero, List.getElem?_cons_succ, Option.getD_some]
    repeat (first | (refine Lone.ro_q (by rfl) (v := ?_) ?_ ?_; rotate_left; (focus (intro w' hSw; (try dsimp only at hSw); go_simp; try with_reducible rfl)); simp only [Act.put, List.setIfInBounds_toArray, List.set_cons_zero, List.set_cons_succ]) | (refine Lone.ro_skip (by rfl) ?_; simp only [Act.put, List.setIfInBounds_toArray, List.set_cons_zero, List.set_cons_succ]))
    (refine Lone.ro_loud (by rfl) (fun K hK => ?_))
    refine wp_append_roomK (.tmp 22) (.tmp 25) 22 rfl 33 2 Tryd.underlying22 rf_size g k _ (by rfl) ⟨g, (k + 1) * 2, none⟩ _ _ (by rfl) cur (show w.drew.heap[g]? = _ from HG.out) (xs.drop ((k + 1) * 2)) ?cl ?cn ?co ?cr ?cf ?_
    case cl => (have := HL.out.1; first | exact this | (simp at this ⊢; omega))
    case cn => (intro j u hu; rw [addr_add]; exact HCELL.out _ u (by rw [List.getElem?_drop] at hu; exact hu))
    case co => exact fun u hu => H1.out u (List.mem_of_mem_drop hu)
    case cr => omega
    case cf => (rw [HL.out.1, ← Array.length_toList, HS.out]; exact HL.out.2.1)
    intro w2 h2 u2
    have u2' : Upd (· = g) w w2 := ⟨u2.os, u2.tape, u2.output, u2.size, u2.block⟩
    obtain ⟨c2, hc2⟩ : ∃ c2 : Array Value, c2 = (cur.toList.take (k * 2) ++ xs.drop ((k + 1) * 2) ++ cur.toList.drop (k * 2 + (xs.drop ((k + 1) * 2)).length)).toArray := ⟨_, rfl⟩
    rw [← hc2] at h2
    have HC2 := Lib.hid (show c2.toList.length = cap * 2 ∧ c2.toList.take ((n - 1) * 2) = xs.take (k * 2) ++ xs.drop ((k + 1) * 2) by rw [hc2]; exact HL.out.2.2.2)
    have HU2 := Lib.hid u2'
    clear hc2 u2 u2'
    rw [f13]
    (refine hK.out _ _ (fun _ => True) (.inl fun _ h => h) (trivial) ?_; clear hK K; try simp only [Act.put, List.setIfInBounds_toArray, List.set_cons_zero, List.set_cons_succ])
    repeat (first | (refine Lone.ro_q (by rfl) (v := ?_) ?_ ?_; rotate_left; (focus (intro w' hSw; (try dsimp only at hSw); go_simp; try with_reducible rfl)); simp only [Act.put, List.setIfInBounds_toArray, List.set_cons_zero, List.set_cons_succ]) | (refine Lone.ro_skip (by rfl) ?_; simp only [Act.put, List.setIfInBounds_toArray, List.set_cons_zero, List.set_cons_succ]))
    refine Lone.ro_nil ?_
    go_wp2_with fail
    have hr := run_clear_rowK (P := Tryd.prog) w2 22 33 0 (Value.agg #[.string ⟨#[]⟩, .string ⟨#[]⟩]) Tryd.underlying22 rf_zero rf_zone g ((n - 1) * 2) (n - (n - 1)) (cap - (n - 1)) (by omega) c2 33 h2 (by have h1 := HC2.out.1; rw [Array.length_toList] at h1; have := HL.out.2.2.1; have hz : ((Value.agg #[.string ⟨#[]⟩, .string ⟨#[]⟩]) : Value).cells.size = 2 := rfl; rw [hz, h1]; omega)
    obtain ⟨w3, hw3⟩ : ∃ w3, w3 = w2.setRow g (c2.toList.take ((n - 1) * 2) ++ (Builtin.zeroCells ((Value.agg #[.string ⟨#[]⟩, .string ⟨#[]⟩]) : Value).cells 1).toList ++ c2.toList.drop ((n - 1) * 2 + 1 * ((Value.agg #[.string ⟨#[]⟩, .string ⟨#[]⟩]) : Value).cells.size)).toArray := ⟨_, rfl⟩
    have h3 := setRow_heap w2 g c2 (c2.toList.take ((n - 1) * 2) ++ (Builtin.zeroCells ((Value.agg #[.string ⟨#[]⟩, .string ⟨#[]⟩]) : Value).cells 1).toList ++ c2.toList.drop ((n - 1) * 2 + 1 * ((Value.agg #[.string ⟨#[]⟩, .string ⟨#[]⟩]) : Value).cells.size)).toArray 33 (0, 0) h2
    have u3 : Upd (· = g) w2 w3 := by rw [hw3]; exact upd_setRow _
    rw [show n - (n - 1) = 1 by omega] at hr ⊢
    rw [← hw3] at h3 hr
    rw [hr]
    simp only [Result.andThen]
    rw [Oper.upon_value]
    have hf := FIN.out w2 w3 c2 _ HC2.out.1 HC2.out.2 HU2.out u3 rfl h3
    have HF := Lib.hid hf
    clear hf hr h3 u3 hw3 h2
    go_wp2_with fail
    go_ret
    exact ⟨_, rfl, HF.out.1, HF.out.2, rfl⟩
set_option maxRecDepth 100000 in
set_option maxHeartbeats 3200000 in
theorem rf_ins (n k : Nat) (v : Value) (xs : List Value) (w : World) (base vb : Nat) (V : Array Value) (hk : k ≤ n) (hown : w.ownsRow base 33 2 v n xs) (h1 : ∀ u ∈ xs, u.oneCell' = true) (hb : base ≤ w.heap.size)
    (hvb : w.heap[vb]? = some (.cells V 33 (0, 0))) (hV : V.size = 2) (hV1 : ∀ u ∈ V.toList, u.oneCell' = true) (hne : v.ownBlock ≠ some vb) (hbig : (n + 1) * 32 ≤ 140737488355328) :
    Calls Tryd.prog 14 #[v, .int .i64 (k : Int), .slice (some ⟨vb, 0, none⟩) 1 1] w fun e w' => ∃ v', e = .returned v' ∧ w'.ownsRow base 33 2 v' (n + 1) (xs.take (k * 2) ++ V.toList ++ xs.drop (k * 2)) ∧ Upd (fun b => v.ownBlock = some b) w w' := by
  have hVL : V.toList.length = 2 := by simpa using hV
  obtain ⟨R, hR⟩ : ∃ R, R = xs.take (k * 2) ++ V.toList ++ xs.drop (k * 2) := ⟨_, rfl⟩
  rw [← hR]
  have HR := Lib.hid hR
  clear hR
  by_cases hkn : k = n
  · subst hkn
    have hxl := hown.1
    have HF := Lib.hid (show R = xs ++ V.toList by rw [HR.out, ← hxl, List.take_length, List.drop_length, List.append_nil])
    clear HR
    have HO := Lib.hid hown
    have HVB := Lib.hid hvb
    have HV1 := Lib.hid hV1
    have f1 : ((1 : Int) == 0) = false := rfl
    obtain ⟨_, ⟨rfl, rfl⟩ | ⟨g, cap, cur, rfl, hbg, hg, hnc, hcm, hcs, htake⟩⟩ := hown
    · clear hvb hV1 h1 hxl hVL
      go_enter Tryd.func14, Tryd.ntmps14
      go_wp2_with (first | (at_builtin; refine wpList_appendX rfl (.tmp 23) (.tmp 24) 22 rfl rf_info Tryd.underlying22 rfl (by decide) (by decide) HO.out hb HVB.out hV HV1.out hbig rfl rfl ?_; intro v' w' ho hu))
      all_goals (have HO2 := Lib.hid ho; have HU2 := Lib.hid hu; clear ho hu; go_ret; exact ⟨_, rfl, by rw [HF.out]; exact HO2.out, HU2.out⟩)
    · have f2 : (k : Int) ≤ (cap : Int) := by omega
      clear hvb hV1 h1 hxl hVL hbg hg hcs htake
      go_enter Tryd.func14, Tryd.ntmps14
      go_wp2_with (first | (at_builtin; refine wpList_appendX rfl (.tmp 23) (.tmp 24) 22 rfl rf_info Tryd.underlying22 rfl (by decide) (by decide) HO.out hb HVB.out hV HV1.out hbig rfl rfl ?_; intro v' w' ho hu))
      all_goals (have HO2 := Lib.hid ho; have HU2 := Lib.hid hu; clear ho hu; go_ret; exact ⟨_, rfl, by rw [HF.out]; exact HO2.out, HU2.out⟩)
  · obtain ⟨hxl, ⟨_, h0⟩ | ⟨g, cap, cur, rfl, hbg, hg, hnc, hcm, hcs, htake⟩⟩ := hown
    · omega
    have hng : vb ≠ g := fun e => hne (by subst e; rfl)
    have hcm' : cap ≤ 9223372036854775807 := by unfold maxLen at hcm; omega
    have f1 : ((1 : Int) == 0) = false := rfl
    have f2 : (k : Int) ≤ (n : Int) := by omega
    have f3 : ¬ ((k : Int) = (n : Int)) := by omega
    have f4 : ((k : Int) == (n : Int)) = false := beq_eq_false_iff_ne.2 f3
    have f5 : ¬ cap = k := by omega
    have f6 : IntKind.i64.wrap ((n : Int) + 1) = (n : Int) + 1 := by rw [IntKind.wrap_i64]; omega
    have f7 : IntKind.i64.wrap ((k : Int) + 1) = (k : Int) + 1 := by rw [IntKind.wrap_i64]; omega
    have f8 : (0 : Int) ≤ (k : Int) + 1 := by omega
    have f9 : ((k : Int) + 1).toNat = k + 1 := by omega
    have f10 : (0 : Int) ≤ (n : Int) + 1 := by omega
    have f11 : ((n : Int) + 1).toNat = n + 1 := by omega
    have f12 : (k : Int) + 1 ≤ (n : Int) + 1 := by omega
    have f13 : (k : Int) ≤ (n : Int) + 1 := by omega
    have f14 : k ≤ n := hk
    have f15 : ¬ k = n := hkn
    have HCELL := Lib.hid (cells_of_row hg htake)
    have HB := Lib.hid hbg
    have HM := Lib.hid hcm
    have H1 := Lib.hid h1
    have HG := Lib.hid hg
    have HX := Lib.hid hxl
    have HT := Lib.hid htake
    have HVB := Lib.hid hvb
    have HV1 := Lib.hid hV1
    have HVL := Lib.hid hVL
    have HCS := Lib.hid (show cur.toList.length = cap * 2 by simpa using hcs)
    clear hcs htake hxl h1 hbg hcm hvb hV1 hg hVL
    by_cases hroom : n + 1 ≤ cap
    · have f20 : (n : Int) + 1 ≤ (cap : Int) := by omega
      have f21 : decide ((cap : Int) < (n : Int) + 1) = false := decide_eq_false (by omega)
      have f22 : ¬ cap = k + 1 := by omega
      have f23 : ¬ (cap : Int) < (n : Int) + 1 := by omega
      obtain ⟨c2, hc2⟩ : ∃ c2, c2 = (cur.toList.take ((k + 1) * 2) ++ xs.drop (k * 2) ++ cur.toList.drop ((k + 1) * 2 + (xs.drop (k * 2)).length)).toArray := ⟨_, rfl⟩
      have HL := Lib.hid (ins_list cur.toList xs V.toList 2 k n cap hk hroom HCS.out HT.out HVL.out c2.toList (by rw [hc2]))
      have HC2 := Lib.hid hc2
      have hov : ∀ lb cb, (callFunc 21 #[.slice (some ⟨vb, 0, none⟩) 1 1, .slice (some ⟨g, (k + 1) * 2, none⟩) lb cb]).run Tryd.prog w = .ok (.value (.bool false)) w := fun lb cb => by
        rw [run_callFunc_extern Tryd.func21 (by kernel_rfl) (by kernel_rfl) (by kernel_rfl) (e := Extern.SlicesOverlaps.overlaps #[22, 22] #[4]) (by kernel_rfl),
          Lib.run_overlaps_apart w 22 4 33 Tryd.underlying22 2 Tryd.sizeOf33 ⟨vb, 0, none⟩ ⟨g, (k + 1) * 2, none⟩ 1 1 lb cb hng 33 33 V.size cur.size (by simp [World.shape?, HVB.out]) (by simp [World.shape?, HG.out]) (by have h1 := HCS.out; rw [Array.length_toList] at h1; rw [h1]; omega) (by simp [World.frozen?, HVB.out]) (by simp [World.frozen?, HVB.out])]
        rfl
      clear hc2
      go_enter Tryd.func14, Tryd.ntmps14
      go_wp2_with (simp only [hov])
      clear hov
      refine Lone.wp_region_order [(0, false), (1, false), (2, false), (3, false), (4, false), (5, false), (6, false), (7, false), (8, true)] (fun _ => True) (by kernel_rfl) (by kernel_rfl) rfl (by kernel_rfl) (by intro _ _ d _ _ h; cases d <;> exact h) (trivial) ?_; simp only [List.map_cons, List.map_nil, List.getElem?_toArray, List.getElem?_cons_zero, List.getElem?_cons_succ, Option.getD_some]
      repeat (first | (refine Lone.ro_q (by rfl) (v := ?_) ?_ ?_; rotate_left; (focus (intro w' hSw; (try dsimp only at hSw); go_simp; try with_reducible rfl)); simp only [Act.put, List.setIfInBounds_toArray, List.set_cons_zero, List.set_cons_succ]) | (refine Lone.ro_skip (by rfl) ?_; simp only [Act.put, List.setIfInBounds_toArray, List.set_cons_zero, List.set_cons_succ]))
      (refine Lone.ro_loud (by rfl) (fun K hK => ?_))
      refine wp_copyK (.tmp 73) (.tmp 76) 22 22 rfl 33 2 Tryd.underlying22 rf_size g ((k + 1) * 2) _ _ ⟨g, k * 2, none⟩ _ _ (by rfl) (by rfl) cur 33 (show w.drew.heap[g]? = _ from HG.out) (xs.drop (k * 2)) (by rw [HL.out.1]; first | (simp only [Nat.min_def]; split <;> omega) | (congr 1; simp only [Nat.min_def]; split <;> omega)) (fun j u hu => by rw [addr_add]; exact HCELL.out _ u (by rw [List.getElem?_drop] at hu; exact hu)) (by rw [HL.out.1, ← Array.length_toList, HCS.out]; exact HL.out.2.1) (fun u hu => H1.out u (List.mem_of_mem_drop hu)) ?_
      intro w2 h2 u2
      rw [← HC2.out] at h2
      have HU2 := Lib.hid (show Upd (· = g) w w2 from ⟨u2.os, u2.tape, u2.output, u2.size, u2.block⟩)
      clear u2
      have HSRC := Lib.hid (show ∀ j u, V.toList[j]? = some u → w2.cell? ((⟨vb, 0, none⟩ : Addr).add j) = some u from fun j u hu => cells_of_blk (blk_upd HVB.out HU2.out hng) j u hu)
      have HFIT := Lib.hid (show k * 2 + V.toList.length ≤ c2.size by rw [← Array.length_toList, HL.out.2.2.1]; exact HL.out.2.2.2.1)
      (refine hK.out _ _ (fun _ => True) (.inl fun _ h => h) (trivial) ?_; clear hK K; try simp only [Act.put, List.setIfInBounds_toArray, List.set_cons_zero, List.set_cons_succ])
      refine Lone.ro_nil ?_
      go_wp2_with fail
      have hr := run_copy_rowK (P := Tryd.prog) w2 22 22 3 33 2 g (k * 2) (n + 1 - k) (cap - k) ⟨vb, 0, none⟩ 1 1 c2 33 V.toList Tryd.underlying22 rf_size h2 (by rw [HVL.out]; first | (simp only [Nat.min_def]; split <;> omega) | (congr 1; simp only [Nat.min_def]; split <;> omega)) HSRC.out HFIT.out HV1.out
      have h3 := setRow_heap w2 g c2 (c2.toList.take (k * 2) ++ V.toList ++ c2.toList.drop (k * 2 + V.toList.length)).toArray 33 (0, 0) h2
      obtain ⟨w3, hw3⟩ : ∃ w3, w3 = w2.setRow g (c2.toList.take (k * 2) ++ V.toList ++ c2.toList.drop (k * 2 + V.toList.length)).toArray := ⟨_, rfl⟩
      have u3 : Upd (· = g) w2 w3 := by rw [hw3]; exact upd_setRow _
      rw [← hw3] at h3 hr
      rw [hr]
      simp only [Result.andThen]
      rw [Oper.upon_value]
      clear hr hw3
      have HU3 := Lib.hid u3
      have H3 := Lib.hid h3
      clear u3 h3 h2
      go_wp2_with fail
      go_ret
      refine ⟨_, rfl, ⟨?_, .inr ⟨g, cap, _, rfl, HB.out, H3.out, hroom, HM.out, ?_, ?_⟩⟩, (HU2.out.trans HU3.out).mono fun i hi => by subst hi; rfl⟩
      · rw [HR.out, ← HL.out.2.2.2.2.2, List.length_take, HL.out.2.2.2.2.1]; have : (n + 1) * 2 ≤ cap * 2 := Nat.mul_le_mul_right _ hroom; omega
      · have := HL.out.2.2.2.2.1; simpa using this
      · rw [HR.out]; exact HL.out.2.2.2.2.2
    · obtain rfl : n = cap := by omega
      have f20 : (n : Int) < (n : Int) + 1 := by omega
      have f21 : decide ((n : Int) < (n : Int) + 1) = true := decide_eq_true f20
      have f24 : IntKind.i64.wrap ((n : Int) + 1 - (k : Int)) = (n : Int) + 1 - (k : Int) := by rw [IntKind.wrap_i64]; omega
      have HOL := Lib.hid (show (xs.take (k * 2)).length = k * 2 by rw [List.length_take, HX.out]; have : k * 2 ≤ n * 2 := Nat.mul_le_mul_right _ hk; omega)
      have HOS := Lib.hid (show ∀ j u, (xs.take (k * 2))[j]? = some u → w.cell? ⟨g, j, none⟩ = some u from fun j u hj => HCELL.out j u (by
        rw [List.getElem?_take] at hj
        split at hj
        · exact hj
        · cases hj))
      have HKX := Lib.hid (show (n : Int) + 1 - (k : Int) = ((n + 1 - k : Nat) : Int) by omega)
      have HGW := Lib.hid (lt_of_block HG.out)
      have HVW := Lib.hid (lt_of_block HVB.out)
      go_enter Tryd.func14, Tryd.ntmps14
      go_wp2_with (first | (at_builtin; refine wpList_append_zerosK rfl (.tmp 34) (.tmp 39) 22 3 rfl rf_info Tryd.underlying22 Tryd.underlying3 rfl (by decide) g k n (n + 1 - k) (n + 1) (by omega) ((n : Int) + 1 - (k : Int)) HKX.out rfl rfl (xs.take (k * 2)) HOL.out HOS.out (by omega) (by omega) (by rw [show k + (n + 1 - k) = n + 1 by omega]; exact hbig) (by unfold maxLen; omega) ?_; intro w2 cap2 c1 q1 q2 q3 q4 q5 u2 q6; have q7 : ¬ cap2 = k := (by omega); have q8 : ¬ cap2 = k + 1 := (by omega); have HQ := Lib.hid (And.intro q2 (And.intro q3 q4)); have HU2 := Lib.hid u2; have HQ5 := Lib.hid q5; clear q2 q3 q4 q5 u2 q6))
      obtain ⟨c2, hc2⟩ : ∃ c2, c2 = (c1.toList.take (k * 2) ++ V.toList ++ c1.toList.drop (k * 2 + V.toList.length)).toArray := ⟨_, rfl⟩
      have HL := Lib.hid (ins_list' c1.toList xs V.toList 2 k n cap2 hk q1 (by rw [Array.length_toList]; exact HQ.out.2.1) HX.out HQ.out.2.2 HVL.out c2.toList (by rw [hc2]))
      have HSRC := Lib.hid (show ∀ j u, V.toList[j]? = some u → w2.cell? ((⟨vb, 0, none⟩ : Addr).add j) = some u from fun j u hu => cells_of_blk (blk_upd HVB.out HU2.out (fun h => h)) j u hu)
      have hr := run_copy_rowK (P := Tryd.prog) w2 22 22 3 33 2 w.heap.size (k * 2) (n + 1 - k) (cap2 - k) ⟨vb, 0, none⟩ 1 1 c1 33 V.toList Tryd.underlying22 rf_size HQ5.out (by rw [HVL.out]; first | (simp only [Nat.min_def]; split <;> omega) | (congr 1; simp only [Nat.min_def]; split <;> omega)) HSRC.out (by rw [HQ.out.2.1]; exact HL.out.2.1) HV1.out
      have h3 := setRow_heap w2 w.heap.size c1 (c1.toList.take (k * 2) ++ V.toList ++ c1.toList.drop (k * 2 + V.toList.length)).toArray 33 (0, 0) HQ5.out
      obtain ⟨w3, hw3⟩ : ∃ w3, w3 = w2.setRow w.heap.size (c1.toList.take (k * 2) ++ V.toList ++ c1.toList.drop (k * 2 + V.toList.length)).toArray := ⟨_, rfl⟩
      have u3 : Upd (· = w.heap.size) w2 w3 := by rw [hw3]; exact upd_setRow _
      rw [← hw3] at h3 hr
      rw [← hc2] at h3
      rw [hr]
      simp only [Result.andThen]
      rw [Oper.upon_value]
      clear hr hw3
      have HU3 := Lib.hid u3
      have H3 := Lib.hid h3
      clear u3 h3 hc2
      have HG3 := Lib.hid (show w3.heap[g]? = some (.cells cur 33 (0, 0)) from blk_upd (blk_upd HG.out HU2.out (fun h => h)) HU3.out (Nat.ne_of_lt HGW.out))
      go_wp2_with fail
      refine Lone.wp_region_order [(0, false), (1, false), (2, false), (3, false), (4, false), (5, false), (6, false), (7, false), (8, true)] (fun _ => True) (by kernel_rfl) (by kernel_rfl) rfl (by kernel_rfl) (by intro _ _ d _ _ h; cases d <;> exact h) (trivial) ?_; simp only [List.map_cons, List.map_nil, List.getElem?_toArray, List.getElem?_cons_zero, List.getElem?_cons_succ, Option.getD_some]
      repeat (first | (refine Lone.ro_q (by rfl) (v := ?_) ?_ ?_; rotate_left; (focus (intro w' hSw; (try dsimp only at hSw); go_simp; try with_reducible rfl)); simp only [Act.put, List.setIfInBounds_toArray, List.set_cons_zero, List.set_cons_succ]) | (refine Lone.ro_skip (by rfl) ?_; simp only [Act.put, List.setIfInBounds_toArray, List.set_cons_zero, List.set_cons_succ]))
      (refine Lone.ro_loud (by rfl) (fun K hK => ?_))
      refine wp_copyK (.tmp 50) (.tmp 53) 22 22 rfl 33 2 Tryd.underlying22 rf_size w.heap.size ((k + 1) * 2) _ _ ⟨g, k * 2, none⟩ _ _ (by rfl) (by rfl) c2 33 (show w3.drew.heap[w.heap.size]? = _ from H3.out) (xs.drop (k * 2)) (by rw [HL.out.1]; first | (simp only [Nat.min_def]; split <;> omega) | (congr 1; simp only [Nat.min_def]; split <;> omega)) (fun j u hu => by rw [addr_add]; exact cells_of_row (w := w3) HG3.out HT.out _ u (by rw [List.getElem?_drop] at hu; exact hu)) (by rw [HL.out.1, ← Array.length_toList, HL.out.2.2.1]; exact HL.out.2.2.2.1) (fun u hu => H1.out u (List.mem_of_mem_drop hu)) ?_
      intro w4 h4 u4
      have HU4 := Lib.hid (show Upd (· = w.heap.size) w3 w4 from ⟨u4.os, u4.tape, u4.output, u4.size, u4.block⟩)
      have H4 := Lib.hid h4
      clear u4 h4
      (refine hK.out _ _ (fun _ => True) (.inl fun _ h => h) (trivial) ?_; clear hK K; try simp only [Act.put, List.setIfInBounds_toArray, List.set_cons_zero, List.set_cons_succ])
      (refine Lone.ro_nil ?_; go_wp2_with fail)
      go_ret
      refine ⟨_, rfl, ⟨?_, .inr ⟨w.heap.size, cap2, _, rfl, hb, H4.out, q1, HQ.out.1, ?_, ?_⟩⟩, (((Upd.refl _ w).trans' HU2.out (fun i hi => hi.elim)).trans' HU3.out (fun i hi => .inr (by omega))).trans' HU4.out (fun i hi => .inr (by omega))⟩
      · rw [HR.out, ← HL.out.2.2.2.2.2, List.length_take, HL.out.2.2.2.2.1]; have : (n + 1) * 2 ≤ cap2 * 2 := Nat.mul_le_mul_right _ q1; omega
      · have := HL.out.2.2.2.2.1; simpa using this
      · rw [HR.out]; exact HL.out.2.2.2.2.2
end Go.Proofs.YtnggcldpojebkaaDoor
