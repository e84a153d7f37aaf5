/- The walk of sameObject. -/
import Derived.Test.YtmjnohblifihmaaObject3
import Derived.Laws.StructEq
namespace Go.Proofs.Ytmjnohblifihmaa
open Go.RowKit
set_option linter.unusedVariables false
set_option linter.unusedSimpArgs false

theorem run_neq_ent (x y : Ent) : ∃ b, (∀ w : World, (binOp .neq 45 (.agg #[.string x.name, .bool x.dir, .string x.id]) (.agg #[.string y.name, .bool y.dir, .string y.id])).run Try.prog w = .ok (.bool b) w) ∧ (b = false ↔ x = y) := by
  obtain ⟨n, d, i⟩ := x
  obtain ⟨n2, d2, i2⟩ := y
  have u3 := Try.underlying9
  have a3 := Try.isAgg9
  have z3 := Try.sizeOf9
  have u4 := Try.underlying4
  have a4 := Try.isAgg4
  have z4 := Try.sizeOf4
  have hS : Try.prog.underlying 45 = some (.struct (Try.prog.fieldsOf 45)) := by kernel_rfl
  have hp : Try.prog.stoodInHeld 45 = false := by kernel_rfl
  have key : ∀ w : World, (binOp .neq 45 (.agg #[.string n, .bool d, .string i]) (.agg #[.string n2, .bool d2, .string i2])).run Try.prog w = .ok (.bool (!(n.toList == n2.toList && ((d == d2) && (i.toList == i2.toList))))) w := by
    intro w
    rw [run_neq_struct, show (10000 : Nat) = 9999 + 1 from rfl, run_equalIn_agg w 9999 45 _ _ hS hp]
    simp only [Program.fieldsOf, Try.underlying45]
    go_simp
    cases h1 : n.toList == n2.toList <;> cases h2 : d == d2 <;> cases h3 : i.toList == i2.toList <;> simp_all
  refine ⟨_, key, ?_⟩
  simp only [Bool.not_eq_false', Bool.and_eq_true, beq_iff_eq, toList_eq_iff, Ent.mk.injEq]

def IsB (e : Ending) (q : Prop) : Prop := ∃ b, e = .returned (.bool b) ∧ (b = true ↔ q)
theorem rdE_len {w : World} {v : Value} {es : List Ent} (hr : rdE w v es) : es.length ≤ 9223372036854775807 := by
  obtain ⟨_, ao, cap, rfl, h1, h2, _⟩ := hr
  unfold maxLen at h2; omega
theorem ents_eq {a b : List Ent} (hl : a.length = b.length) (h : ∀ j, j < a.length → a.getD j zeroE = b.getD j zeroE) : a = b := by
  apply List.ext_getElem hl
  intro i h1 h2
  have := h i h1
  rwa [getD_of _ _ _ h1, getD_of _ _ _ h2] at this
set_option maxRecDepth 100000 in
set_option maxHeartbeats 3200000 in
theorem sameO_any (o p : Obj) (ve vp ue up : Value) (w : World) (he : rdE w ve o.ents) (hp : rdS w vp o.pars) (ge : rdE w ue p.ents) (gp : rdS w up p.pars) :
    Calls Try.prog 9 #[.agg (objC o ve vp).toArray, .agg (objC p ue up).toArray] w fun e w' => IsB e (o = p) ∧ Below w.heap.size w w' := by
  have hNl := rdE_len he
  obtain ⟨PQ, hPQ⟩ : ∃ q : Prop, q = (o = p) := ⟨_, rfl⟩
  rw [← hPQ]
  have HPQ := Lib.hid hPQ
  clear hPQ
  obtain ⟨ae, ce, rfl⟩ := rd_form he
  obtain ⟨ap, cp, rfl⟩ := rdS_form hp
  obtain ⟨af, de, rfl⟩ := rd_form ge
  obtain ⟨aq, dp, rfl⟩ := rdS_form gp
  obtain ⟨C, hC⟩ : ∃ C : Array Value, C = (objC o (.slice ae o.ents.length ce) (.slice ap o.pars.length cp)).toArray := ⟨_, rfl⟩
  obtain ⟨D, hD⟩ : ∃ D : Array Value, D = (objC p (.slice af p.ents.length de) (.slice aq p.pars.length dp)).toArray := ⟨_, rfl⟩
  rw [← hC, ← hD]
  have HOBC := Lib.hid (fun (wr : World) (h : wr.heap[w.heap.size]? = some (.cells C 25 (0, 0))) => ob_cells hC h)
  have HOBD := Lib.hid (fun (wr : World) (h : wr.heap[w.heap.size + 1]? = some (.cells D 25 (0, 0))) => ob_cells hD h)
  obtain ⟨W, hW⟩ : ∃ W, (w.alloc (.cells C 25)).alloc (.cells D 25) = W := ⟨_, rfl⟩
  have hb1 : Below w.heap.size w W := by rw [← hW]; exact ((Below.refl _ _).alloc (Nat.le_refl _) _).alloc (by simp) _
  have g1 : W.heap[w.heap.size]? = some (.cells C 25 (0, 0)) := by rw [← hW, Below.heap_alloc _ _ _ (by simp)]; exact heap_alloc_new _ _
  have g2 : W.heap[w.heap.size + 1]? = some (.cells D 25 (0, 0)) := by rw [← hW]; have := heap_alloc_new (w.alloc (.cells C 25)) (.cells D 25); simpa using this
  have HE1 := Lib.hid (he.below hb1)
  have HP1 := Lib.hid (hp.below hb1)
  have HE2 := Lib.hid (rdRow.below ge hb1)
  have HP2 := Lib.hid (gp.below hb1)
  have HW0 := Lib.hid hb1
  have HG1 := Lib.hid (fun wr (h : Below W.heap.size W wr) => blk_below g1 h)
  have HG2 := Lib.hid (fun wr (h : Below W.heap.size W wr) => blk_below g2 h)
  obtain ⟨kind1, data1, ents1, tree1, pars1, who1, note1, time1, target1⟩ := o
  obtain ⟨kind2, data2, ents2, tree2, pars2, who2, note2, time2, target2⟩ := p
  obtain ⟨c0, c1, c2, c3, c4, c5, c6, c7, c8⟩ := HOBC.out _ g1
  obtain ⟨b0, b1, b2, b3, b4, b5, b6, b7, b8⟩ := HOBD.out _ g2
  simp only at c0 c1 c2 c3 c4 c5 c6 c7 c8 b0 b1 b2 b3 b4 b5 b6 b7 b8
  clear hC hD he hp ge gp hb1
  by_cases hl : ents1.length = ents2.length
  · have HLN := Lib.hid hl
    obtain ⟨N, hN⟩ : ∃ N, N = ents1.length := ⟨_, rfl⟩
    have HN1 := Lib.hid hN
    simp only at HOBC HOBD HE1 HE2
    rw [← hl, ← hN] at b2 HOBD
    rw [← hN] at c2 HOBC
    have hlb : ((N : Int) == (N : Int)) = true := by simp
    have hlc : ((N : Int) != (N : Int)) = false := by simp
    clear hl hN
    go_enter Try.func9, Try.ntmps9
    go_wp2_with fail
    clear hW g1 g2 c0 c1 c2 c3 c4 c5 c6 c7 c8 b0 b1 b2 b3 b4 b5 b6 b7 b8
    go_loopw [5] (fun i wr => ∃ k : Nat, k ≤ N ∧ i = .int .i64 (k : Int) ∧ (∀ j, j < k → ents1.getD j zeroE = ents2.getD j zeroE) ∧ Below W.heap.size W wr) (fun i _ => N - (intOf i).toNat)
    case atStart => exact ⟨0, Nat.zero_le _, rfl, fun j hj => absurd hj (Nat.not_lt_zero _), Below.refl _ _⟩
    case round =>
      obtain ⟨k, hk, rfl, hall, hB⟩ := hrel
      have HALL := Lib.hid hall
      have HBr := Lib.hid hB
      obtain ⟨c0, c1, c2, c3, c4, c5, c6, c7, c8⟩ := HOBC.out _ (HG1.out _ hB)
      obtain ⟨b0, b1, b2, b3, b4, b5, b6, b7, b8⟩ := HOBD.out _ (HG2.out _ hB)
      clear hall hB
      by_cases hlt : k < N
      · have hki : (k : Int) < (N : Int) := by omega
        have hkb : decide ((k : Int) < (N : Int)) = true := decide_eq_true hki
        have hkn : decide (k < N) = true := decide_eq_true hlt
        have hk0 : (0 : Int) ≤ (k : Int) := by omega
        have hk1 : k < ents1.length := by rw [← HN1.out]; exact hlt
        have hk2 : k < ents2.length := by rw [← HLN.out]; exact hk1
        obtain ⟨b, off, hae, hblt, hcell⟩ := rdE_at HE1.out (by omega)
        obtain ⟨bb, off2, haf, hblt2, hcell2⟩ := rdE_at HE2.out (by omega)
        obtain ⟨x, hx⟩ : ∃ x, x = ents1.getD k zeroE := ⟨_, rfl⟩
        obtain ⟨y, hy⟩ : ∃ y, y = ents2.getD k zeroE := ⟨_, rfl⟩
        obtain ⟨d0, d1, d2⟩ := hcell k hk1
        obtain ⟨f0, f1, f2⟩ := hcell2 k hk2
        rw [← hx] at d0 d1 d2
        rw [← hy] at f0 f1 f2
        rw [← HBr.out.cell (p := ⟨b, off + k * 3, none⟩) hblt] at d0
        rw [← HBr.out.cell (p := ⟨b, off + k * 3 + 1, none⟩) hblt] at d1
        rw [← HBr.out.cell (p := ⟨b, off + k * 3 + 2, none⟩) hblt] at d2
        rw [← HBr.out.cell (p := ⟨bb, off2 + k * 3, none⟩) hblt2] at f0
        rw [← HBr.out.cell (p := ⟨bb, off2 + k * 3 + 1, none⟩) hblt2] at f1
        rw [← HBr.out.cell (p := ⟨bb, off2 + k * 3 + 2, none⟩) hblt2] at f2
        subst hae haf
        obtain ⟨nb, hnb, hiff⟩ := run_neq_ent x y
        have hN2 : N ≤ 9223372036854775807 := by rw [HN1.out]; exact hNl
        have HX := Lib.hid (show x = ents1.getD k zeroE ∧ y = ents2.getD k zeroE ∧ k < N from ⟨hx, hy, hlt⟩)
        have HNB := Lib.hid hnb
        have HIF := Lib.hid hiff
        have HBd := Lib.hid HBr.out.drew
        have hSS : (fun w' : World => w'.cell? ⟨w.heap.size, 2, none⟩ = some (.slice (some ⟨b, off, none⟩) N ce) ∧ w'.cell? ⟨w.heap.size + 1, 2, none⟩ = some (.slice (some ⟨bb, off2, none⟩) N de) ∧ w'.cell? ⟨b, off + k * 3, none⟩ = some (.string x.name) ∧ w'.cell? ⟨b, off + k * 3 + 1, none⟩ = some (.bool x.dir) ∧ w'.cell? ⟨b, off + k * 3 + 2, none⟩ = some (.string x.id) ∧ w'.cell? ⟨bb, off2 + k * 3, none⟩ = some (.string y.name) ∧ w'.cell? ⟨bb, off2 + k * 3 + 1, none⟩ = some (.bool y.dir) ∧ w'.cell? ⟨bb, off2 + k * 3 + 2, none⟩ = some (.string y.id)) wr.drew := ⟨c2, b2, d0, d1, d2, f0, f1, f2⟩
        clear hx hy hcell hcell2 hiff
        go_wp2_with fail
        refine Lone.wp_region_order [(0, false), (1, false), (2, false), (3, false), (4, false), (5, false), (6, false), (7, false), (8, false), (9, false), (10, false)] (fun w' => w'.cell? ⟨w.heap.size, 2, none⟩ = some (.slice (some ⟨b, off, none⟩) N ce) ∧ w'.cell? ⟨w.heap.size + 1, 2, none⟩ = some (.slice (some ⟨bb, off2, none⟩) N de) ∧ w'.cell? ⟨b, off + k * 3, none⟩ = some (.string x.name) ∧ w'.cell? ⟨b, off + k * 3 + 1, none⟩ = some (.bool x.dir) ∧ w'.cell? ⟨b, off + k * 3 + 2, none⟩ = some (.string x.id) ∧ w'.cell? ⟨bb, off2 + k * 3, none⟩ = some (.string y.name) ∧ w'.cell? ⟨bb, off2 + k * 3 + 1, none⟩ = some (.bool y.dir) ∧ w'.cell? ⟨bb, off2 + k * 3 + 2, none⟩ = some (.string y.id)) (by kernel_rfl) (by kernel_rfl) rfl (by kernel_rfl) (by intro _ _ d _ _ h; cases d <;> exact h) (hSS) ?_; simp only [List.map_cons, List.map_nil, List.getElem?_toArray, List.getElem?_cons_zero, List.getElem?_cons_succ, Option.getD_some]
        repeat (first | (refine Lone.ro_q (by rfl) (v := ?_) ?_ ?_; rotate_left; (focus (intro w' hSw; (try dsimp only at hSw); go_simp; try with_reducible rfl)); simp only [Act.put, List.setIfInBounds_toArray, List.set_cons_zero, List.set_cons_succ]) | (refine Lone.ro_skip (by rfl) ?_; simp only [Act.put, List.setIfInBounds_toArray, List.set_cons_zero, List.set_cons_succ]))
        clear hnb
        refine Lone.ro_nil ?_
        cases nb with
        | true =>
          have HN := Lib.hid (show ¬ ents1.getD k zeroE = ents2.getD k zeroE from fun h => by have := HIF.out.2 (by rw [HX.out.1, HX.out.2.1, h]); cases this)
          clear hSS
          go_wp2_with fail
          go_ret
          exact ⟨⟨false, rfl, (fun h => Bool.noConfusion h), (fun h => absurd (congrArg (fun z => z.ents.getD k zeroE) (HPQ.out.mp h) : _) HN.out)⟩, HW0.out.trans (HBd.out.mono HW0.out.size)⟩
        | false =>
          have HQ := Lib.hid (show ents1.getD k zeroE = ents2.getD k zeroE from by rw [← HX.out.1, ← HX.out.2.1]; exact HIF.out.1 rfl)
          clear hSS
          go_wp2_with fail
          exact ⟨⟨k + 1, by have := HX.out.2.2; omega, by first | rfl | go_num, fun j hj => by (by_cases hjk : j = k; rw [hjk]; exact HQ.out; exact HALL.out j (by omega)), HBd.out⟩, by have := HX.out.2.2; simp [intOf]; omega⟩
      · have hkn : k = N := by omega
        subst hkn
        have HEQ := Lib.hid (show ents1 = ents2 from ents_eq HLN.out (fun j hj => HALL.out j (by have := HN1.out; omega)))
        have HBe := Lib.hid HBr.out
        have hkb : decide ((k : Int) < (k : Int)) = false := by simp
        clear hlt hk HALL HBr
        by_cases p_kind : kind1 = kind2
        · have f_kind : (kind1 == kind2) = true := by rw [p_kind]; exact beq_self_eq_true _
          have HQ_kind := Lib.hid p_kind
          clear p_kind
          by_cases p_data : data1 = data2
          · have f_data : (data1.toList == data2.toList) = true := by rw [p_data]; exact beq_yes _
            have HQ_data := Lib.hid p_data
            clear p_data
            by_cases p_tree : tree1 = tree2
            · have f_tree : (tree1.toList == tree2.toList) = true := by rw [p_tree]; exact beq_yes _
              have HQ_tree := Lib.hid p_tree
              clear p_tree
              obtain ⟨bp, hbp⟩ : ∃ bp, bp = decide (pars1 = pars2) := ⟨_, rfl⟩
              have HCP := Lib.hid (fun wx (hbx : Below W.heap.size W wx) => same_any pars1 pars2 _ _ wx (HP1.out.below hbx) (HP2.out.below hbx))
              rw [← hbp] at HCP
              go_wp2_with fail
              (with_reducible refine (HCP.out _ HBe.out).mono ?_)
              rintro e w5 ⟨rfl, hb5⟩
              have HBe' := Lib.hid (HBe.out.trans (hb5.mono HBe.out.size))
              clear HBe
              have HBe := Lib.hid HBe'.out
              clear HBe' hb5 HCP c0 c1 c2 c3 c4 c5 c6 c7 c8 b0 b1 b2 b3 b4 b5 b6 b7 b8
              obtain ⟨c0, c1, c2, c3, c4, c5, c6, c7, c8⟩ := HOBC.out _ (HG1.out _ HBe.out)
              obtain ⟨b0, b1, b2, b3, b4, b5, b6, b7, b8⟩ := HOBD.out _ (HG2.out _ HBe.out)
              cases bp with
              | false =>
                have HN := Lib.hid (of_decide_eq_false hbp.symm)
                clear hbp
                go_wp2_with fail
                go_ret
                exact ⟨⟨false, rfl, (fun h => Bool.noConfusion h), (fun h => absurd (congrArg Obj.pars (HPQ.out.mp h) : _) HN.out)⟩, HW0.out.trans (HBe.out.mono HW0.out.size)⟩
              | true =>
                have HQ_pars := Lib.hid (of_decide_eq_true hbp.symm)
                clear hbp
                by_cases p_who : who1 = who2
                · have f_who : (who1.toList == who2.toList) = true := by rw [p_who]; exact beq_yes _
                  have HQ_who := Lib.hid p_who
                  clear p_who
                  by_cases p_note : note1 = note2
                  · have f_note : (note1.toList == note2.toList) = true := by rw [p_note]; exact beq_yes _
                    have HQ_note := Lib.hid p_note
                    clear p_note
                    by_cases p_time : time1 = time2
                    · have f_time : (time1 == time2) = true := by rw [p_time]; exact beq_self_eq_true _
                      have HQ_time := Lib.hid p_time
                      clear p_time
                      by_cases p_target : target1 = target2
                      · have f_target : (target1.toList == target2.toList) = true := by rw [p_target]; exact beq_yes _
                        have HQ_target := Lib.hid p_target
                        clear p_target
                        go_wp2_with fail
                        go_ret
                        exact ⟨⟨true, rfl, (fun _ => HPQ.out.mpr (by rw [HQ_kind.out, HQ_data.out, HEQ.out, HQ_tree.out, HQ_pars.out, HQ_who.out, HQ_note.out, HQ_time.out, HQ_target.out])), (fun _ => rfl)⟩, HW0.out.trans (HBe.out.mono HW0.out.size)⟩
                      · have f_target : (target1.toList == target2.toList) = false := beq_no p_target
                        have HN := Lib.hid p_target
                        clear p_target
                        go_wp2_with fail
                        go_ret
                        exact ⟨⟨false, rfl, (fun h => Bool.noConfusion h), (fun h => absurd (congrArg Obj.target (HPQ.out.mp h) : _) HN.out)⟩, HW0.out.trans (HBe.out.mono HW0.out.size)⟩
                    · have f_time : (time1 == time2) = false := beq_eq_false_iff_ne.2 p_time
                      have HN := Lib.hid p_time
                      clear p_time
                      go_wp2_with fail
                      go_ret
                      exact ⟨⟨false, rfl, (fun h => Bool.noConfusion h), (fun h => absurd (congrArg Obj.time (HPQ.out.mp h) : _) HN.out)⟩, HW0.out.trans (HBe.out.mono HW0.out.size)⟩
                  · have f_note : (note1.toList == note2.toList) = false := beq_no p_note
                    have HN := Lib.hid p_note
                    clear p_note
                    go_wp2_with fail
                    go_ret
                    exact ⟨⟨false, rfl, (fun h => Bool.noConfusion h), (fun h => absurd (congrArg Obj.note (HPQ.out.mp h) : _) HN.out)⟩, HW0.out.trans (HBe.out.mono HW0.out.size)⟩
                · have f_who : (who1.toList == who2.toList) = false := beq_no p_who
                  have HN := Lib.hid p_who
                  clear p_who
                  go_wp2_with fail
                  go_ret
                  exact ⟨⟨false, rfl, (fun h => Bool.noConfusion h), (fun h => absurd (congrArg Obj.who (HPQ.out.mp h) : _) HN.out)⟩, HW0.out.trans (HBe.out.mono HW0.out.size)⟩
            · have f_tree : (tree1.toList == tree2.toList) = false := beq_no p_tree
              have HN := Lib.hid p_tree
              clear p_tree
              go_wp2_with fail
              go_ret
              exact ⟨⟨false, rfl, (fun h => Bool.noConfusion h), (fun h => absurd (congrArg Obj.tree (HPQ.out.mp h) : _) HN.out)⟩, HW0.out.trans (HBe.out.mono HW0.out.size)⟩
          · have f_data : (data1.toList == data2.toList) = false := beq_no p_data
            have HN := Lib.hid p_data
            clear p_data
            go_wp2_with fail
            go_ret
            exact ⟨⟨false, rfl, (fun h => Bool.noConfusion h), (fun h => absurd (congrArg Obj.data (HPQ.out.mp h) : _) HN.out)⟩, HW0.out.trans (HBe.out.mono HW0.out.size)⟩
        · have f_kind : (kind1 == kind2) = false := beq_eq_false_iff_ne.2 p_kind
          have HN := Lib.hid p_kind
          clear p_kind
          go_wp2_with fail
          go_ret
          exact ⟨⟨false, rfl, (fun h => Bool.noConfusion h), (fun h => absurd (congrArg Obj.kind (HPQ.out.mp h) : _) HN.out)⟩, HW0.out.trans (HBe.out.mono HW0.out.size)⟩
  · have h1 : ((ents1.length : Int) == (ents2.length : Int)) = false := beq_eq_false_iff_ne.2 (fun h => hl (by omega))
    have h2 : ((ents1.length : Int) != (ents2.length : Int)) = true := by rw [bne, h1]; rfl
    have HN := Lib.hid hl
    clear hl
    go_enter Try.func9, Try.ntmps9
    go_wp2_with fail
    go_ret
    exact ⟨⟨false, rfl, (fun h => Bool.noConfusion h), (fun h => absurd (congrArg (fun z => z.ents.length) (HPQ.out.mp h) : _) HN.out)⟩, HW0.out⟩
end Go.Proofs.Ytmjnohblifihmaa
