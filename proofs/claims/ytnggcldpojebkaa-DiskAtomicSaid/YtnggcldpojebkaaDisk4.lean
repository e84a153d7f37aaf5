/- slices.Clone at files; package disk's step. -/
import Derived.Test.YtnggcldpojebkaaDisk3
import Derived.Test.YtnggcldpojebkaaRegion3
import Derived.OwnWalk
import Derived.Lib.SliceRun
namespace Go.Proofs.Ytnggcldpojebkaa
open Go.RowKit
set_option linter.unusedVariables false
set_option linter.unusedSimpArgs false

set_option maxRecDepth 100000 in
set_option maxHeartbeats 3200000 in
theorem clone_any (l : List Fil) (v : Value) (w : World) (hr : rdF w v l) (hl : l.length * 48 ≤ 140737488355328) :
    Calls Try.prog 38 #[v] w fun e w' => ∃ v', e = .returned v' ∧ w'.ownsRow w.heap.size 60 3 v' l.length (fvs l) ∧ Below w.heap.size w w' := by
  have q22 : ∀ (w : World) (a : Option Addr) (n c n' c' : Nat), (binOp .eql 28 (.slice a n c) (.slice none n' c')).run Try.prog w = .ok (.bool a.isNone) w := fun w a n c n' c' => Lib.run_eql_slice_nil w _ _ a n c n' c' Try.underlying28
  obtain ⟨ao, cap, rfl⟩ := rd_form hr
  cases ao with
  | none =>
    have h0 : l.length = 0 := by
      obtain ⟨_, ao', cap', hv, hle, _, hz, _⟩ := hr
      simp only [Value.slice.injEq, true_and] at hv
      obtain ⟨rfl, rfl⟩ := hv
      have := hz rfl
      omega
    have he : l = [] := List.eq_nil_of_length_eq_zero h0
    subst he
    clear hr
    go_enter Try.func38, Try.ntmps38
    go_wp2_with fail
    go_ret
    exact ⟨_, rfl, World.ownsRow_nil _ _ _ _, Below.refl _ _⟩
  | some a =>
    have HR := Lib.hid hr
    have HLL := Lib.hid hl
    clear hr hl
    go_enter Try.func38, Try.ntmps38
    go_wp2_with (first | (at_builtin; refine wpList_append_rd rfl (.tmp 5) (.tmp 6) 28 rfl fil_info Try.underlying28 rfl (by decide) (by decide) (w0 := w) (B := w.heap.size) (World.ownsRow_made w #[] 0 (Nat.le_refl _) (Nat.zero_le _) (by simp)) ((Below.refl _ w).alloc (Nat.le_refl _) _) (Nat.le_refl _) (by simp) (HR.out.below ((Below.refl _ w).alloc (Nat.le_refl _) _)) (fvs_one l) (by rw [Nat.zero_add]; exact HLL.out) rfl rfl ?_; intro v' w' ho hb))
    have HO := Lib.hid ho
    have HB := Lib.hid hb
    clear ho hb
    go_ret
    exact ⟨_, rfl, by have := HO.out; simpa using this, HB.out⟩

theorem set2_upd {w : World} {g : Nat} (u u' : Value) : Upd (· = g) w ((w.setCell ⟨g, 0, none⟩ u).setCell ⟨g, 1, none⟩ u') := ((Upd.refl (· = g) w).setCell (a := ⟨g, 0, none⟩) (.inl rfl) _).setCell (a := ⟨g, 1, none⟩) (.inl rfl) _
theorem set2_below {B : Nat} {w0 w : World} (h : Below B w0 w) {g : Nat} (hg : B ≤ g) (u u' : Value) : Below B w0 ((w.setCell ⟨g, 0, none⟩ u).setCell ⟨g, 1, none⟩ u') := (h.setCell hg _).setCell hg _
theorem owns_ne {w : World} {base : Nat} {e t : TypeId} {size : Nat} {v : Value} {n : Nat} {xs : List Value} {b : Nat} {cs : Array Value} {fr : Nat × Nat} (h : w.ownsRow base e size v n xs) (hb : w.heap[b]? = some (.cells cs t fr)) (hne : e ≠ t) : v.ownBlock ≠ some b := by
  rcases h.2 with ⟨rfl, _⟩ | ⟨g, cap, cur, rfl, _, hg, _⟩
  · intro k; cases k
  · intro k
    obtain rfl : g = b := by simpa [Value.ownBlock] using k
    rw [hg] at hb
    simp at hb
    exact hne hb.2.1
/-- A call that answers a disk and an error's number. -/
def RetD (w : World) (r : Dsk × Int) (e : Ending) (w' : World) : Prop := ∃ v', e = .returned (.tuple #[.agg #[v', .int .i64 r.1.fuse], .int .i64 r.2]) ∧ rdF w' v' r.1.files ∧ Below w.heap.size w w'
/-- What a closure upon a disk of its own memory does. -/
def CloOk (g : FuncId) (caps : Array Value) (w0 : World) (l : List Fil) (r : List Fil × Int) : Prop :=
  ∀ (W : World) (B gb : Nat) (v : Value) (fu : Int), Below w0.heap.size w0 W → w0.heap.size ≤ B → B ≤ W.heap.size → B ≤ gb → W.heap[gb]? = some (.cells #[v, .int .i64 fu] 30 (0, 0)) → W.ownsRow B 60 3 v l.length (fvs l) →
    Calls Try.prog g (#[.pointer (some ⟨gb, 0, none⟩)] ++ caps) W fun e W' => e = .returned (.int .i64 r.2) ∧ Below B W W' ∧
      (r.2 = 0 → ∃ v', W'.heap[gb]? = some (.cells #[v', .int .i64 fu] 30 (0, 0)) ∧ W'.ownsRow B 60 3 v' r.1.length (fvs r.1))
theorem step_1 {d : Dsk} {op : List Fil → List Fil × Int} (h : ¬ GoodL namedD d.files) : stepD namedD d op = (d, 3) := by unfold stepD; rw [if_pos h]
theorem step_2 {d : Dsk} {op : List Fil → List Fil × Int} (h : GoodL namedD d.files) (h2 : d.fuse = 0) : stepD namedD d op = (d, 12) := by unfold stepD; rw [if_neg (fun k => k h), if_pos h2]
theorem step_3 {d : Dsk} {op : List Fil → List Fil × Int} (h : GoodL namedD d.files) (h2 : d.fuse ≠ 0) (h3 : (op d.files).2 ≠ 0) : stepD namedD d op = (d, (op d.files).2) := by unfold stepD; rw [if_neg (fun k => k h), if_neg h2, if_pos h3]
theorem step_4 {d : Dsk} {op : List Fil → List Fil × Int} (h : GoodL namedD d.files) (h2 : d.fuse ≠ 0) (h3 : (op d.files).2 = 0) : stepD namedD d op = (⟨(op d.files).1, if 0 < d.fuse then d.fuse - 1 else d.fuse⟩, 0) := by unfold stepD; rw [if_neg (fun k => k h), if_neg h2, if_neg (fun k => k h3)]
set_option maxRecDepth 100000 in
set_option maxHeartbeats 3200000 in
theorem step_any (l : List Fil) (fuse : Int) (hfu : -9223372036854775808 ≤ fuse ∧ fuse ≤ 9223372036854775807) (op : List Fil → List Fil × Int) (v : Value) (w : World) (hr : rdF w v l) (g : FuncId) (caps : Array Value) (eg : ∀ args w, (callFunc g args).run Try.prog w = .ok (.enter g args) w)
    (hclo : GoodL namedD l → CloOk g caps w l (op l)) :
    Calls Try.prog 34 #[.agg #[v, .int .i64 fuse], .func (.func g) #[] caps] w (RetD w (stepD namedD ⟨l, fuse⟩ op)) := by
  obtain ⟨r, hr0⟩ : ∃ r, r = stepD namedD ⟨l, fuse⟩ op := ⟨_, rfl⟩
  rw [← hr0]
  obtain ⟨ao, cp, hv⟩ := rd_form hr
  subst hv
  have HRR := Lib.hid hr0
  have HR := Lib.hid hr
  have HCL := Lib.hid hclo
  obtain ⟨W, hW⟩ : ∃ W, (w.alloc (.cells #[.slice ao l.length cp, .int .i64 fuse] 30)).alloc (.cells #[.slice none 0 0, .int .i64 0] 30) = W := ⟨_, rfl⟩
  have hbW : Below w.heap.size w W := by rw [← hW]; exact ((Below.refl _ _).alloc (Nat.le_refl _) _).alloc (by simp) _
  have g0 : W.heap[w.heap.size]? = some (.cells #[.slice ao l.length cp, .int .i64 fuse] 30 (0, 0)) := by rw [← hW]; exact (Below.heap_alloc _ _ _ (by simp)).trans (heap_alloc_new _ _)
  have g1 : W.heap[w.heap.size + 1]? = some (.cells #[.slice none 0 0, .int .i64 0] 30 (0, 0)) := by rw [← hW]; have := heap_alloc_new (w.alloc (.cells #[.slice ao l.length cp, .int .i64 fuse] 30)) (.cells #[.slice none 0 0, .int .i64 0] 30); simpa using this
  have HBW := Lib.hid hbW
  have HSZ := Lib.hid (show w.heap.size + 2 ≤ W.heap.size by rw [← hW]; simp)
  have HG0 := Lib.hid (fun w' (h : Below W.heap.size W w') => blk_below g0 h)
  have HG1 := Lib.hid (fun w' (h : Below W.heap.size W w') => blk_below g1 h)
  have HGD := Lib.hid (goodD_any l _ fuse W (hr.below hbW))
  obtain ⟨c0, c1, z0, z1⟩ := cell_of_two g0
  clear hr hclo hr0 hbW g0 g1
  go_enter Try.func34, Try.ntmps34
  go_wp2_with fail
  (with_reducible refine HGD.out.mono ?_)
  rintro e w1 ⟨rfl, hb⟩
  have HB1 := Lib.hid hb
  clear hb HGD c0 c1 z0 z1 hW
  obtain ⟨c0, c1, z0, z1⟩ := cell_of_two (HG0.out _ HB1.out)
  obtain ⟨d0, d1, y0, y1⟩ := cell_of_two (HG1.out _ HB1.out)
  by_cases hgood : GoodL namedD l
  · rw [goodB_true hgood]
    by_cases hz : fuse = 0
    · have hr1 := HRR.out.trans (step_2 (d := ⟨l, fuse⟩) hgood hz)
      subst hr1
      subst hz
      clear hgood
      go_wp2_with fail
      have hT := two_setCell1 (u := .int .i64 (0)) (two_setCell0 (u := .slice ao l.length cp) (HG1.out _ HB1.out))
      obtain ⟨e0, e1, _, _⟩ := cell_of_two hT
      refine bodyPost_ret (v := .tuple #[.agg #[.slice ao l.length cp, .int .i64 (0)], .int .i64 (12)]) ?_ rfl ⟨.slice ao l.length cp, rfl, HR.out.below (set2_below (HBW.out.trans (HB1.out.mono HBW.out.size)) (Nat.le_succ _) _ _), set2_below (HBW.out.trans (HB1.out.mono HBW.out.size)) (Nat.le_succ _) _ _⟩
      simp [results, Try.f34, go_sem, e0, e1]
    · have HGOOD := Lib.hid hgood
      have HZ := Lib.hid hz
      have HL48 := Lib.hid (show l.length * 48 ≤ 140737488355328 by have := hgood.len; omega)
      have HCO := Lib.hid (HCL.out hgood)
      have hz0 : (fuse == 0) = false := beq_eq_false_iff_ne.2 hz
      clear hgood HCL
      go_wp2_with fail
      refine Twin.wp_region_order ((.q 0 (.q 1 (.q 3 (.q 4 (.l2 2 6 (.q 5 (.l 6 (.l 7 .nil))) (.l 2 (.q 5 (.l 7 .nil)))))))) ) (fun w' => w'.cell? ⟨w.heap.size, 0, none⟩ = some (.slice ao l.length cp) ∧ w'.cell? ⟨w.heap.size, 1, none⟩ = some (.int .i64 fuse)) (by kernel_rfl) (by kernel_rfl) rfl (by kernel_rfl) (by intro _ _ d _ _ h; cases d <;> exact h) (⟨c0, c1⟩) ?_; simp only [Twin.Ord.opers, List.getElem?_toArray, List.getElem?_cons_zero, List.getElem?_cons_succ, Option.getD_some]
      repeat (first | (refine Twin.ro_q (by rfl) (v := ?_) ?_ ?_; rotate_left; (focus (intro w' hSw; (try dsimp only at hSw); go_simp; try with_reducible rfl)); simp only [Act.put, List.setIfInBounds_toArray, List.set_cons_zero, List.set_cons_succ]) | (refine Twin.ro_skip (by rfl) ?_; simp only [Act.put, List.setIfInBounds_toArray, List.set_cons_zero, List.set_cons_succ]))
      refine Twin.ro_two ?_ ?_
      · skip
        (refine Twin.ro_loud (by rfl) (fun K hK => ?_); go_simp)
        (with_reducible refine (clone_any l _ _ (HR.out.below (HBW.out.trans (HB1.out.drew.mono HBW.out.size))) HL48.out).mono ?_)
        rintro e w2 ⟨cv, rfl, hown, hb2⟩
        have HB2 := Lib.hid (HB1.out.drew.trans (hb2.mono HB1.out.drew.size))
        clear hb2
        have hcv := rd_form (rdRow_of_owns hown)
        obtain ⟨ao2, cp2, rfl⟩ := hcv
        obtain ⟨c0, c1, z0, z1⟩ := cell_of_two (HG0.out _ HB2.out)
        (refine hK.out _ _ (fun w' => w'.cell? ⟨w.heap.size, 0, none⟩ = some (.slice ao l.length cp) ∧ w'.cell? ⟨w.heap.size, 1, none⟩ = some (.int .i64 fuse)) (.inl fun _ h => h) (⟨c0, c1⟩) ?_; clear hK K; try simp only [Act.put, List.setIfInBounds_toArray, List.set_cons_zero, List.set_cons_succ])
        repeat (first | (refine Twin.ro_q (by rfl) (v := ?_) ?_ ?_; rotate_left; (focus (intro w' hSw; (try dsimp only at hSw); go_simp; try with_reducible rfl)); simp only [Act.put, List.setIfInBounds_toArray, List.set_cons_zero, List.set_cons_succ]) | (refine Twin.ro_skip (by rfl) ?_; simp only [Act.put, List.setIfInBounds_toArray, List.set_cons_zero, List.set_cons_succ]))
        (refine Twin.ro_loud (by rfl) (fun K hK => ?_); go_simp)
        have hb3 := HB2.out.alloc HB2.out.size (.cells #[.slice none 0 0, .int .i64 0] 30)
        obtain ⟨c0, c1, z0, z1⟩ := cell_of_two (HG0.out _ hb3)
        (refine hK.out _ _ (fun w' => w'.cell? ⟨w.heap.size, 0, none⟩ = some (.slice ao l.length cp) ∧ w'.cell? ⟨w.heap.size, 1, none⟩ = some (.int .i64 fuse)) (.inl fun _ h => h) (⟨c0, c1⟩) ?_; clear hK K; try simp only [Act.put, List.setIfInBounds_toArray, List.set_cons_zero, List.set_cons_succ])
        repeat (first | (refine Twin.ro_q (by rfl) (v := ?_) ?_ ?_; rotate_left; (focus (intro w' hSw; (try dsimp only at hSw); go_simp; try with_reducible rfl)); simp only [Act.put, List.setIfInBounds_toArray, List.set_cons_zero, List.set_cons_succ]) | (refine Twin.ro_skip (by rfl) ?_; simp only [Act.put, List.setIfInBounds_toArray, List.set_cons_zero, List.set_cons_succ]))
        (refine Twin.ro_loud (by rfl) (fun K hK => ?_); go_simp)
        have hG : (w2.alloc (.cells #[.slice ao2 l.length cp2, .int .i64 fuse] 30)).heap[w2.heap.size]? = some (.cells #[.slice ao2 l.length cp2, .int .i64 fuse] 30 (0, 0)) := heap_alloc_new _ _
        have hO : (w2.alloc (.cells #[.slice ao2 l.length cp2, .int .i64 fuse] 30)).ownsRow W.heap.size 60 3 (.slice ao2 l.length cp2) l.length (fvs l) := (owns_base hown HB1.out.size).alloc _
        have HN := Lib.hid (show (Value.slice ao2 l.length cp2).ownBlock ≠ some (w2.heap.size) from fun e => by have := (hown.lt _ e).2; omega)
        have hB5 : Below W.heap.size W (w2.alloc (.cells #[.slice ao2 l.length cp2, .int .i64 fuse] 30)) := HB2.out.alloc HB2.out.size _
        have HGE := Lib.hid (show W.heap.size ≤ w2.heap.size from HB2.out.size)
        obtain ⟨w5, hw5⟩ : ∃ w5, w2.alloc (.cells #[.slice ao2 l.length cp2, .int .i64 fuse] 30) = w5 := ⟨_, rfl⟩
        rw [hw5] at hG hO hB5
        have HO := Lib.hid hO
        have HB5 := Lib.hid hB5
        have HG := Lib.hid hG
        clear hO hB5 hown c0 c1 z0 z1 d0 d1 y0 y1
        (refine hK.out _ _ (fun _ => True) (.inr (by kernel_rfl)) trivial ?_; clear hK K; try simp only [Act.put, List.setIfInBounds_toArray, List.set_cons_zero, List.set_cons_succ])
        refine Twin.ro_nil ?_
        rw [hw5]
        clear hw5
        obtain ⟨c0, c1, z0, z1⟩ := cell_of_two (HG0.out _ HB5.out)
        obtain ⟨d0, d1, y0, y1⟩ := cell_of_two (HG1.out _ HB5.out)
        obtain ⟨e0, e1, x0, x1⟩ := cell_of_two hG
        clear hG
        by_cases hp : 0 < fuse
        · have hpb : decide (0 < fuse) = true := decide_eq_true hp
          have hw : IntKind.i64.wrap (fuse - 1) = fuse - 1 := by rw [IntKind.wrap_i64]; omega
          have HP := Lib.hid hp
          go_wp2_with fail
          have HB6 := Lib.hid (show Below W.heap.size W (w5.setCell ⟨w2.heap.size, 1, none⟩ (.int .i64 (fuse - 1))) from HB5.out.setCell (p := ⟨w2.heap.size, 1, none⟩) HGE.out _)
          have hcall := HCO.out (w5.setCell ⟨w2.heap.size, 1, none⟩ (.int .i64 (fuse - 1))) W.heap.size (w2.heap.size) (.slice ao2 l.length cp2) (fuse - 1) (HBW.out.trans (HB6.out.mono HBW.out.size)) HBW.out.size HB6.out.size HGE.out (two_setCell1 HG.out) (owns_setCell HO.out HN.out _)
          (with_reducible refine hcall.mono ?_)
          rintro e w7 ⟨rfl, hu, hok⟩
          have HB7 := Lib.hid (HB6.out.trans hu)
          clear hcall hu c0 c1 z0 z1 d0 d1 y0 y1 e0 e1 x0 x1
          obtain ⟨c0, c1, z0, z1⟩ := cell_of_two (HG0.out _ HB7.out)
          obtain ⟨d0, d1, y0, y1⟩ := cell_of_two (HG1.out _ HB7.out)
          obtain ⟨en, hen⟩ : ∃ en, en = (op l).2 := ⟨_, rfl⟩
          rw [← hen] at hok ⊢
          by_cases he : en = 0
          · obtain ⟨v', hG7, hO7⟩ := hok he
            have hr4 := HRR.out.trans (step_4 (d := ⟨l, fuse⟩) HGOOD.out HZ.out (hen.symm.trans he))
            simp only [if_pos (show 0 < fuse by have := HP.out; omega)] at hr4
            obtain ⟨l', hl'⟩ : ∃ l', l' = (op l).1 := ⟨_, rfl⟩
            rw [← hl'] at hO7 hr4
            subst hr4
            subst he
            obtain ⟨ao3, cp3, rfl⟩ := rd_form (rdRow_of_owns hO7)
            obtain ⟨e0, e1, x0, x1⟩ := cell_of_two hG7
            have HO7 := Lib.hid hO7
            clear hG7 hO7 hl' hen hok
            go_wp2_with fail
            have hT := two_setCell1 (u := .int .i64 (fuse - 1)) (two_setCell0 (u := .slice ao3 l'.length cp3) (HG1.out _ HB7.out))
            obtain ⟨e0, e1, _, _⟩ := cell_of_two hT
            refine bodyPost_ret (v := .tuple #[.agg #[.slice ao3 l'.length cp3, .int .i64 (fuse - 1)], .int .i64 (0)]) ?_ rfl ⟨.slice ao3 l'.length cp3, rfl, rdF_owns (owns_setCell (owns_setCell HO7.out (owns_ne (e := 60) (t := 30) HO7.out (HG1.out _ HB7.out) (by decide)) _) (owns_ne (e := 60) (t := 30) HO7.out (HG1.out _ HB7.out) (by decide)) _), set2_below (HBW.out.trans (HB7.out.mono HBW.out.size)) (Nat.le_succ _) _ _⟩
            simp [results, Try.f34, go_sem, e0, e1]
          · have hr3 := HRR.out.trans (step_3 (d := ⟨l, fuse⟩) HGOOD.out HZ.out (fun k => he (hen.trans k)))
            rw [← hen] at hr3
            subst hr3
            have hn1 : (en == 0) = false := beq_eq_false_iff_ne.2 he
            have hn2 : (en != 0) = true := by rw [bne, hn1]; rfl
            clear hok hen he
            go_wp2_with fail
            have hT := two_setCell1 (u := .int .i64 (fuse)) (two_setCell0 (u := .slice ao l.length cp) (HG1.out _ HB7.out))
            obtain ⟨e0, e1, _, _⟩ := cell_of_two hT
            refine bodyPost_ret (v := .tuple #[.agg #[.slice ao l.length cp, .int .i64 (fuse)], .int .i64 (en)]) ?_ rfl ⟨.slice ao l.length cp, rfl, HR.out.below (set2_below (HBW.out.trans (HB7.out.mono HBW.out.size)) (Nat.le_succ _) _ _), set2_below (HBW.out.trans (HB7.out.mono HBW.out.size)) (Nat.le_succ _) _ _⟩
            simp [results, Try.f34, go_sem, e0, e1]
        · have hpb : decide (0 < fuse) = false := decide_eq_false hp
          have HP := Lib.hid hp
          go_wp2_with fail
          have HB6 := Lib.hid (show Below W.heap.size W (w5) from HB5.out)
          have hcall := HCO.out (w5) W.heap.size (w2.heap.size) (.slice ao2 l.length cp2) (fuse) (HBW.out.trans (HB6.out.mono HBW.out.size)) HBW.out.size HB6.out.size HGE.out (HG.out) (HO.out)
          (with_reducible refine hcall.mono ?_)
          rintro e w7 ⟨rfl, hu, hok⟩
          have HB7 := Lib.hid (HB6.out.trans hu)
          clear hcall hu c0 c1 z0 z1 d0 d1 y0 y1 e0 e1 x0 x1
          obtain ⟨c0, c1, z0, z1⟩ := cell_of_two (HG0.out _ HB7.out)
          obtain ⟨d0, d1, y0, y1⟩ := cell_of_two (HG1.out _ HB7.out)
          obtain ⟨en, hen⟩ : ∃ en, en = (op l).2 := ⟨_, rfl⟩
          rw [← hen] at hok ⊢
          by_cases he : en = 0
          · obtain ⟨v', hG7, hO7⟩ := hok he
            have hr4 := HRR.out.trans (step_4 (d := ⟨l, fuse⟩) HGOOD.out HZ.out (hen.symm.trans he))
            simp only [if_neg (show ¬ 0 < fuse by have := HP.out; omega)] at hr4
            obtain ⟨l', hl'⟩ : ∃ l', l' = (op l).1 := ⟨_, rfl⟩
            rw [← hl'] at hO7 hr4
            subst hr4
            subst he
            obtain ⟨ao3, cp3, rfl⟩ := rd_form (rdRow_of_owns hO7)
            obtain ⟨e0, e1, x0, x1⟩ := cell_of_two hG7
            have HO7 := Lib.hid hO7
            clear hG7 hO7 hl' hen hok
            go_wp2_with fail
            have hT := two_setCell1 (u := .int .i64 (fuse)) (two_setCell0 (u := .slice ao3 l'.length cp3) (HG1.out _ HB7.out))
            obtain ⟨e0, e1, _, _⟩ := cell_of_two hT
            refine bodyPost_ret (v := .tuple #[.agg #[.slice ao3 l'.length cp3, .int .i64 (fuse)], .int .i64 (0)]) ?_ rfl ⟨.slice ao3 l'.length cp3, rfl, rdF_owns (owns_setCell (owns_setCell HO7.out (owns_ne (e := 60) (t := 30) HO7.out (HG1.out _ HB7.out) (by decide)) _) (owns_ne (e := 60) (t := 30) HO7.out (HG1.out _ HB7.out) (by decide)) _), set2_below (HBW.out.trans (HB7.out.mono HBW.out.size)) (Nat.le_succ _) _ _⟩
            simp [results, Try.f34, go_sem, e0, e1]
          · have hr3 := HRR.out.trans (step_3 (d := ⟨l, fuse⟩) HGOOD.out HZ.out (fun k => he (hen.trans k)))
            rw [← hen] at hr3
            subst hr3
            have hn1 : (en == 0) = false := beq_eq_false_iff_ne.2 he
            have hn2 : (en != 0) = true := by rw [bne, hn1]; rfl
            clear hok hen he
            go_wp2_with fail
            have hT := two_setCell1 (u := .int .i64 (fuse)) (two_setCell0 (u := .slice ao l.length cp) (HG1.out _ HB7.out))
            obtain ⟨e0, e1, _, _⟩ := cell_of_two hT
            refine bodyPost_ret (v := .tuple #[.agg #[.slice ao l.length cp, .int .i64 (fuse)], .int .i64 (en)]) ?_ rfl ⟨.slice ao l.length cp, rfl, HR.out.below (set2_below (HBW.out.trans (HB7.out.mono HBW.out.size)) (Nat.le_succ _) _ _), set2_below (HBW.out.trans (HB7.out.mono HBW.out.size)) (Nat.le_succ _) _ _⟩
            simp [results, Try.f34, go_sem, e0, e1]
      · skip
        (refine Twin.ro_loud (by rfl) (fun K hK => ?_); go_simp)
        have hb2 := (HB1.out.alloc HB1.out.size (.cells #[.slice none 0 0, .int .i64 0] 30)).drew
        obtain ⟨c0, c1, z0, z1⟩ := cell_of_two (HG0.out _ hb2)
        (refine hK.out _ _ (fun w' => w'.cell? ⟨w.heap.size, 0, none⟩ = some (.slice ao l.length cp) ∧ w'.cell? ⟨w.heap.size, 1, none⟩ = some (.int .i64 fuse)) (.inl fun _ h => h) (⟨c0, c1⟩) ?_; clear hK K; try simp only [Act.put, List.setIfInBounds_toArray, List.set_cons_zero, List.set_cons_succ])
        (refine Twin.ro_loud (by rfl) (fun K hK => ?_); go_simp)
        have HBA := Lib.hid hb2
        clear hb2
        (with_reducible refine (clone_any l _ _ (HR.out.below (HBW.out.trans (HBA.out.mono HBW.out.size))) HL48.out).mono ?_)
        rintro e w2 ⟨cv, rfl, hown, hb2⟩
        have HB2 := Lib.hid (HBA.out.trans (hb2.mono HBA.out.size))
        have hz2 := blk_below (w := (w1.alloc (.cells #[.slice none 0 0, .int .i64 0] 30)).drew) (heap_alloc_new w1 (.cells #[.slice none 0 0, .int .i64 0] 30)) hb2
        clear hb2
        have hcv := rd_form (rdRow_of_owns hown)
        obtain ⟨ao2, cp2, rfl⟩ := hcv
        obtain ⟨c0, c1, z0, z1⟩ := cell_of_two (HG0.out _ HB2.out)
        obtain ⟨q0, q1, q2, q3⟩ := cell_of_two hz2
        (refine hK.out _ _ (fun w' => w'.cell? ⟨w.heap.size, 0, none⟩ = some (.slice ao l.length cp) ∧ w'.cell? ⟨w.heap.size, 1, none⟩ = some (.int .i64 fuse)) (.inl fun _ h => h) (⟨c0, c1⟩) ?_; clear hK K; try simp only [Act.put, List.setIfInBounds_toArray, List.set_cons_zero, List.set_cons_succ])
        repeat (first | (refine Twin.ro_q (by rfl) (v := ?_) ?_ ?_; rotate_left; (focus (intro w' hSw; (try dsimp only at hSw); go_simp; try with_reducible rfl)); simp only [Act.put, List.setIfInBounds_toArray, List.set_cons_zero, List.set_cons_succ]) | (refine Twin.ro_skip (by rfl) ?_; simp only [Act.put, List.setIfInBounds_toArray, List.set_cons_zero, List.set_cons_succ]))
        (refine Twin.ro_loud (by rfl) (fun K hK => ?_); go_simp)
        have hG : ((w2.setCell ⟨w1.heap.size, 0, none⟩ (.slice ao2 l.length cp2)).setCell ⟨w1.heap.size, 1, none⟩ (.int .i64 fuse)).heap[w1.heap.size]? = some (.cells #[.slice ao2 l.length cp2, .int .i64 fuse] 30 (0, 0)) := two_setCell1 (two_setCell0 hz2)
        have hO : ((w2.setCell ⟨w1.heap.size, 0, none⟩ (.slice ao2 l.length cp2)).setCell ⟨w1.heap.size, 1, none⟩ (.int .i64 fuse)).ownsRow W.heap.size 60 3 (.slice ao2 l.length cp2) l.length (fvs l) := owns_setCell (owns_setCell (owns_base hown HBA.out.size) (owns_ne (e := 60) (t := 30) hown hz2 (by decide)) _) (owns_ne (e := 60) (t := 30) hown hz2 (by decide)) _
        have HN := Lib.hid (show (Value.slice ao2 l.length cp2).ownBlock ≠ some (w1.heap.size) from owns_ne (e := 60) (t := 30) hown hz2 (by decide))
        have hB5 : Below W.heap.size W ((w2.setCell ⟨w1.heap.size, 0, none⟩ (.slice ao2 l.length cp2)).setCell ⟨w1.heap.size, 1, none⟩ (.int .i64 fuse)) := (HB2.out.setCell (p := ⟨w1.heap.size, 0, none⟩) HB1.out.size _).setCell (p := ⟨w1.heap.size, 1, none⟩) HB1.out.size _
        have HGE := Lib.hid (show W.heap.size ≤ w1.heap.size from HB1.out.size)
        obtain ⟨w5, hw5⟩ : ∃ w5, (w2.setCell ⟨w1.heap.size, 0, none⟩ (.slice ao2 l.length cp2)).setCell ⟨w1.heap.size, 1, none⟩ (.int .i64 fuse) = w5 := ⟨_, rfl⟩
        rw [hw5] at hG hO hB5
        have HO := Lib.hid hO
        have HB5 := Lib.hid hB5
        have HG := Lib.hid hG
        clear hO hB5 hown c0 c1 z0 z1 d0 d1 y0 y1
        (refine hK.out _ _ (fun _ => True) (.inr (by kernel_rfl)) trivial ?_; clear hK K; try simp only [Act.put, List.setIfInBounds_toArray, List.set_cons_zero, List.set_cons_succ])
        refine Twin.ro_nil ?_
        rw [hw5]
        clear hw5
        obtain ⟨c0, c1, z0, z1⟩ := cell_of_two (HG0.out _ HB5.out)
        obtain ⟨d0, d1, y0, y1⟩ := cell_of_two (HG1.out _ HB5.out)
        obtain ⟨e0, e1, x0, x1⟩ := cell_of_two hG
        clear hG
        by_cases hp : 0 < fuse
        · have hpb : decide (0 < fuse) = true := decide_eq_true hp
          have hw : IntKind.i64.wrap (fuse - 1) = fuse - 1 := by rw [IntKind.wrap_i64]; omega
          have HP := Lib.hid hp
          go_wp2_with fail
          have HB6 := Lib.hid (show Below W.heap.size W (w5.setCell ⟨w1.heap.size, 1, none⟩ (.int .i64 (fuse - 1))) from HB5.out.setCell (p := ⟨w1.heap.size, 1, none⟩) HGE.out _)
          have hcall := HCO.out (w5.setCell ⟨w1.heap.size, 1, none⟩ (.int .i64 (fuse - 1))) W.heap.size (w1.heap.size) (.slice ao2 l.length cp2) (fuse - 1) (HBW.out.trans (HB6.out.mono HBW.out.size)) HBW.out.size HB6.out.size HGE.out (two_setCell1 HG.out) (owns_setCell HO.out HN.out _)
          (with_reducible refine hcall.mono ?_)
          rintro e w7 ⟨rfl, hu, hok⟩
          have HB7 := Lib.hid (HB6.out.trans hu)
          clear hcall hu c0 c1 z0 z1 d0 d1 y0 y1 e0 e1 x0 x1
          obtain ⟨c0, c1, z0, z1⟩ := cell_of_two (HG0.out _ HB7.out)
          obtain ⟨d0, d1, y0, y1⟩ := cell_of_two (HG1.out _ HB7.out)
          obtain ⟨en, hen⟩ : ∃ en, en = (op l).2 := ⟨_, rfl⟩
          rw [← hen] at hok ⊢
          by_cases he : en = 0
          · obtain ⟨v', hG7, hO7⟩ := hok he
            have hr4 := HRR.out.trans (step_4 (d := ⟨l, fuse⟩) HGOOD.out HZ.out (hen.symm.trans he))
            simp only [if_pos (show 0 < fuse by have := HP.out; omega)] at hr4
            obtain ⟨l', hl'⟩ : ∃ l', l' = (op l).1 := ⟨_, rfl⟩
            rw [← hl'] at hO7 hr4
            subst hr4
            subst he
            obtain ⟨ao3, cp3, rfl⟩ := rd_form (rdRow_of_owns hO7)
            obtain ⟨e0, e1, x0, x1⟩ := cell_of_two hG7
            have HO7 := Lib.hid hO7
            clear hG7 hO7 hl' hen hok
            go_wp2_with fail
            have hT := two_setCell1 (u := .int .i64 (fuse - 1)) (two_setCell0 (u := .slice ao3 l'.length cp3) (HG1.out _ HB7.out))
            obtain ⟨e0, e1, _, _⟩ := cell_of_two hT
            refine bodyPost_ret (v := .tuple #[.agg #[.slice ao3 l'.length cp3, .int .i64 (fuse - 1)], .int .i64 (0)]) ?_ rfl ⟨.slice ao3 l'.length cp3, rfl, rdF_owns (owns_setCell (owns_setCell HO7.out (owns_ne (e := 60) (t := 30) HO7.out (HG1.out _ HB7.out) (by decide)) _) (owns_ne (e := 60) (t := 30) HO7.out (HG1.out _ HB7.out) (by decide)) _), set2_below (HBW.out.trans (HB7.out.mono HBW.out.size)) (Nat.le_succ _) _ _⟩
            simp [results, Try.f34, go_sem, e0, e1]
          · have hr3 := HRR.out.trans (step_3 (d := ⟨l, fuse⟩) HGOOD.out HZ.out (fun k => he (hen.trans k)))
            rw [← hen] at hr3
            subst hr3
            have hn1 : (en == 0) = false := beq_eq_false_iff_ne.2 he
            have hn2 : (en != 0) = true := by rw [bne, hn1]; rfl
            clear hok hen he
            go_wp2_with fail
            have hT := two_setCell1 (u := .int .i64 (fuse)) (two_setCell0 (u := .slice ao l.length cp) (HG1.out _ HB7.out))
            obtain ⟨e0, e1, _, _⟩ := cell_of_two hT
            refine bodyPost_ret (v := .tuple #[.agg #[.slice ao l.length cp, .int .i64 (fuse)], .int .i64 (en)]) ?_ rfl ⟨.slice ao l.length cp, rfl, HR.out.below (set2_below (HBW.out.trans (HB7.out.mono HBW.out.size)) (Nat.le_succ _) _ _), set2_below (HBW.out.trans (HB7.out.mono HBW.out.size)) (Nat.le_succ _) _ _⟩
            simp [results, Try.f34, go_sem, e0, e1]
        · have hpb : decide (0 < fuse) = false := decide_eq_false hp
          have HP := Lib.hid hp
          go_wp2_with fail
          have HB6 := Lib.hid (show Below W.heap.size W (w5) from HB5.out)
          have hcall := HCO.out (w5) W.heap.size (w1.heap.size) (.slice ao2 l.length cp2) (fuse) (HBW.out.trans (HB6.out.mono HBW.out.size)) HBW.out.size HB6.out.size HGE.out (HG.out) (HO.out)
          (with_reducible refine hcall.mono ?_)
          rintro e w7 ⟨rfl, hu, hok⟩
          have HB7 := Lib.hid (HB6.out.trans hu)
          clear hcall hu c0 c1 z0 z1 d0 d1 y0 y1 e0 e1 x0 x1
          obtain ⟨c0, c1, z0, z1⟩ := cell_of_two (HG0.out _ HB7.out)
          obtain ⟨d0, d1, y0, y1⟩ := cell_of_two (HG1.out _ HB7.out)
          obtain ⟨en, hen⟩ : ∃ en, en = (op l).2 := ⟨_, rfl⟩
          rw [← hen] at hok ⊢
          by_cases he : en = 0
          · obtain ⟨v', hG7, hO7⟩ := hok he
            have hr4 := HRR.out.trans (step_4 (d := ⟨l, fuse⟩) HGOOD.out HZ.out (hen.symm.trans he))
            simp only [if_neg (show ¬ 0 < fuse by have := HP.out; omega)] at hr4
            obtain ⟨l', hl'⟩ : ∃ l', l' = (op l).1 := ⟨_, rfl⟩
            rw [← hl'] at hO7 hr4
            subst hr4
            subst he
            obtain ⟨ao3, cp3, rfl⟩ := rd_form (rdRow_of_owns hO7)
            obtain ⟨e0, e1, x0, x1⟩ := cell_of_two hG7
            have HO7 := Lib.hid hO7
            clear hG7 hO7 hl' hen hok
            go_wp2_with fail
            have hT := two_setCell1 (u := .int .i64 (fuse)) (two_setCell0 (u := .slice ao3 l'.length cp3) (HG1.out _ HB7.out))
            obtain ⟨e0, e1, _, _⟩ := cell_of_two hT
            refine bodyPost_ret (v := .tuple #[.agg #[.slice ao3 l'.length cp3, .int .i64 (fuse)], .int .i64 (0)]) ?_ rfl ⟨.slice ao3 l'.length cp3, rfl, rdF_owns (owns_setCell (owns_setCell HO7.out (owns_ne (e := 60) (t := 30) HO7.out (HG1.out _ HB7.out) (by decide)) _) (owns_ne (e := 60) (t := 30) HO7.out (HG1.out _ HB7.out) (by decide)) _), set2_below (HBW.out.trans (HB7.out.mono HBW.out.size)) (Nat.le_succ _) _ _⟩
            simp [results, Try.f34, go_sem, e0, e1]
          · have hr3 := HRR.out.trans (step_3 (d := ⟨l, fuse⟩) HGOOD.out HZ.out (fun k => he (hen.trans k)))
            rw [← hen] at hr3
            subst hr3
            have hn1 : (en == 0) = false := beq_eq_false_iff_ne.2 he
            have hn2 : (en != 0) = true := by rw [bne, hn1]; rfl
            clear hok hen he
            go_wp2_with fail
            have hT := two_setCell1 (u := .int .i64 (fuse)) (two_setCell0 (u := .slice ao l.length cp) (HG1.out _ HB7.out))
            obtain ⟨e0, e1, _, _⟩ := cell_of_two hT
            refine bodyPost_ret (v := .tuple #[.agg #[.slice ao l.length cp, .int .i64 (fuse)], .int .i64 (en)]) ?_ rfl ⟨.slice ao l.length cp, rfl, HR.out.below (set2_below (HBW.out.trans (HB7.out.mono HBW.out.size)) (Nat.le_succ _) _ _), set2_below (HBW.out.trans (HB7.out.mono HBW.out.size)) (Nat.le_succ _) _ _⟩
            simp [results, Try.f34, go_sem, e0, e1]
  · rw [goodB_false hgood]
    have hr1 := HRR.out.trans (step_1 (d := ⟨l, fuse⟩) hgood)
    subst hr1
    clear hgood
    go_wp2_with fail
    have hT := two_setCell1 (u := .int .i64 (fuse)) (two_setCell0 (u := .slice ao l.length cp) (HG1.out _ HB1.out))
    obtain ⟨e0, e1, _, _⟩ := cell_of_two hT
    refine bodyPost_ret (v := .tuple #[.agg #[.slice ao l.length cp, .int .i64 (fuse)], .int .i64 (3)]) ?_ rfl ⟨.slice ao l.length cp, rfl, HR.out.below (set2_below (HBW.out.trans (HB1.out.mono HBW.out.size)) (Nat.le_succ _) _ _), set2_below (HBW.out.trans (HB1.out.mono HBW.out.size)) (Nat.le_succ _) _ _⟩
    simp [results, Try.f34, go_sem, e0, e1]
end Go.Proofs.Ytnggcldpojebkaa
