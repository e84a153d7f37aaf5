/- The walk of package pack's one. -/
import Derived.Test.YtalkheljejkpiaaDoorPack2
import Derived.Test.YtalkheljejkpiaaDoorDlt
namespace Go.Proofs.YtalkheljejkpiaaDoor
open Go.RowKit Go.Maps
set_option linter.unusedVariables false
set_option linter.unusedSimpArgs false

/-- A map from strings to strings tells what f says. -/
structure RepS (D : DataW Unit) (f : ByteArray → Option ByteArray) : Prop where
  map : IsMap D
  has : ∀ key, Maps.has D (keyB key) = (f key).isSome
  at_ : ∀ key s, f key = some s → ∀ z, D.atKey (keyB key) z = .lit (.string s.data.toList)
theorem repS_start : RepS (.map []) (fun _ => none) := ⟨isMap_empty, fun _ => rfl, fun _ _ h => by cases h⟩
theorem repS_put {D : DataW Unit} {f f2 : ByteArray → Option ByteArray} (h : RepS D f) (x s : ByteArray) (h2 : ∀ key, f2 key = if x = key then some s else f key) : RepS (D.put (keyB x) (.lit (.string s.data.toList))) f2 := by
  refine ⟨h.map.put _ _, fun key => ?_, fun key t hk z => ?_⟩
  · rw [h2 key]
    by_cases hw : x = key
    · subst hw; rw [if_pos rfl, has_put_same h.map (keyB_key _)]; rfl
    · rw [if_neg hw, has_put_other (fun e => hw (keyB_inj e).symm)]; exact h.has key
  · rw [h2 key] at hk
    by_cases hw : x = key
    · subst hw
      rw [if_pos rfl] at hk
      injection hk with hk
      subst hk
      exact atKey_put_same h.map (keyB_key _) _ _
    · rw [if_neg hw] at hk
      rw [atKey_put_other (fun e => hw (keyB_inj e).symm)]
      exact h.at_ key t hk z
abbrev ownsS (w : World) (b n : Nat) (D : DataW Unit) : Prop := w.ownsMap Tryd.prog 9 (plainElem Tryd.prog 9) b n D
theorem zeroS (w : World) : (zeroValue 9).run Tryd.prog w = .ok (.string ⟨#[]⟩) w := by kernel_rfl
set_option maxRecDepth 100000 in
theorem look_str {w : World} {b n : Nat} {D : DataW Unit} {f : ByteArray → Option ByteArray} (h : ownsS w b n D) (r : RepS D f) (key : ByteArray) (hk : key.size ≤ maxLen) :
    (Instr.lookup 46 (.map (some b)) (.string key) true).run Tryd.prog w = .ok (.tuple #[.string ((f key).getD noB), .bool (f key).isSome]) w := by
  obtain ⟨v, ps, hrun, hv⟩ := h.look_ok lawS Tryd.underlying46 (zeroS w) (plainElem_string (s := ⟨#[]⟩) Tryd.underlying9 (Nat.zero_le _)) (keyB_of key hk)
  rw [r.has] at hrun
  rw [hrun]
  have hs : ∀ {s : ByteArray}, plainElem (H := Unit) Tryd.prog 9 v = some (.lit (.string s.data.toList), ps) → v = .string s := by
    intro s hv
    simp only [plainElem, Tryd.underlying9] at hv
    cases v <;> simp at hv
    obtain ⟨_, e, _⟩ := hv
    rw [ByteArray.ext e]
  cases hf : f key with
  | none =>
    have h0 : Maps.has D (keyB key) = false := by rw [r.has, hf]; rfl
    rw [atKey_of_not_has h0] at hv
    rw [hs (s := ⟨#[]⟩) hv]; rfl
  | some s =>
    rw [r.at_ key s hf] at hv
    rw [hs hv]; rfl
theorem deepI_at {deep : List Nat} {k : Nat} (h : k < deep.length) : (deep.map (fun k : Nat => (k : Int))).getD k 0 = ((deep.getD k 0 : Nat) : Int) := by
  rw [List.getD, List.getElem?_map, List.getD, List.getElem?_eq_getElem h]; rfl

variable {st : ByteArray × Int} {l : List ByteArray} {deep : List Nat} {f : ByteArray → Option ByteArray}
theorem oneF_bad {n : Nat} {t1 : ByteArray} {e1 : Int} (h1 : rNum st = (n, (t1, e1))) (h : e1 ≠ 0 ∨ 2 < n) : oneF st l deep f = ((noB, 0, 2), st) := by
  unfold oneF; rw [h1]; dsimp only; rw [if_pos h]
theorem oneF_0 {t1 t2 t3 s : ByteArray} {e2 : Int} {k : Nat} (h1 : rNum st = (0, (t1, 0))) (h2 : rNum (t1, 0) = (k, (t2, e2))) (h3 : rByt (t2, e2) (k : Int) = (s, (t3, 0))) : oneF st l deep f = ((s, 0, 0), (t3, 0)) := by
  unfold oneF; rw [h1]; dsimp only; rw [if_neg (by simp), if_pos rfl, h2]; dsimp only; rw [h3]; dsimp only; rw [if_neg (by simp)]
theorem oneF_0b {t1 t2 t3 s : ByteArray} {e2 e3 : Int} {k : Nat} (h1 : rNum st = (0, (t1, 0))) (h2 : rNum (t1, 0) = (k, (t2, e2))) (h3 : rByt (t2, e2) (k : Int) = (s, (t3, e3))) (h : e3 ≠ 0) : oneF st l deep f = ((noB, 0, 2), st) := by
  unfold oneF; rw [h1]; dsimp only; rw [if_neg (by simp), if_pos rfl, h2]; dsimp only; rw [h3]; dsimp only; rw [if_pos h]
theorem oneF_1b {t1 t2 : ByteArray} {e2 : Int} {k : Nat} (h1 : rNum st = (1, (t1, 0))) (h2 : rNum (t1, 0) = (k, (t2, e2))) (h : e2 ≠ 0) : oneF st l deep f = ((noB, 0, 2), st) := by
  unfold oneF; rw [h1]; dsimp only; rw [if_neg (by simp), if_neg (by decide), if_pos rfl, h2]; dsimp only; rw [if_pos h]
theorem oneF_1r {t1 t2 : ByteArray} {k : Nat} (h1 : rNum st = (1, (t1, 0))) (h2 : rNum (t1, 0) = (k, (t2, 0))) (h : l.length ≤ k) : oneF st l deep f = ((noB, 0, 3), st) := by
  unfold oneF; rw [h1]; dsimp only; rw [if_neg (by simp), if_neg (by decide), if_pos rfl, h2]; dsimp only; rw [if_neg (by simp), if_pos h]
theorem oneF_1 {t1 t2 : ByteArray} {k : Nat} (h1 : rNum st = (1, (t1, 0))) (h2 : rNum (t1, 0) = (k, (t2, 0))) (h : k < l.length) : oneF st l deep f = oneD (l.getD k noB) (deep.getD k 0) (t2, 0) := by
  unfold oneF; rw [h1]; dsimp only; rw [if_neg (by simp), if_neg (by decide), if_pos rfl, h2]; dsimp only; rw [if_neg (by simp), if_neg (by omega)]
theorem oneF_2b {t1 t2 id : ByteArray} {e2 : Int} (h1 : rNum st = (2, (t1, 0))) (h2 : rByt (t1, 0) 32 = (id, (t2, e2))) (h : e2 ≠ 0) : oneF st l deep f = ((noB, 0, 2), st) := by
  unfold oneF; rw [h1]; dsimp only; rw [if_neg (by simp), if_neg (by decide), if_neg (by decide), h2]; dsimp only; rw [if_pos h]
theorem oneF_2n {t1 t2 id : ByteArray} (h1 : rNum st = (2, (t1, 0))) (h2 : rByt (t1, 0) 32 = (id, (t2, 0))) (h : f id = none) : oneF st l deep f = ((noB, 0, 11), st) := by
  unfold oneF; rw [h1]; dsimp only; rw [if_neg (by simp), if_neg (by decide), if_neg (by decide), h2]; dsimp only; rw [if_neg (by simp), h]
theorem oneF_2 {t1 t2 id x : ByteArray} (h1 : rNum st = (2, (t1, 0))) (h2 : rByt (t1, 0) 32 = (id, (t2, 0))) (h : f id = some x) : oneF st l deep f = oneD x 0 (t2, 0) := by
  unfold oneF; rw [h1]; dsimp only; rw [if_neg (by simp), if_neg (by decide), if_neg (by decide), h2]; dsimp only; rw [if_neg (by simp), h]
theorem oneD_bad {base d t : ByteArray} {depth : Nat} {st : ByteArray × Int} {e : Int} (h1 : rTxt st = (d, (t, e))) (h : e ≠ 0) : oneD base depth st = ((noB, 0, 2), st) := by
  unfold oneD; rw [h1]; dsimp only; rw [if_pos h]
theorem oneD_deep {base d t : ByteArray} {depth : Nat} {st : ByteArray × Int} (h1 : rTxt st = (d, (t, 0))) (h : 8 ≤ depth) : oneD base depth st = ((noB, 0, 10), st) := by
  unfold oneD; rw [h1]; dsimp only; rw [if_neg (by simp), if_pos h]
theorem oneD_ok {base d t ax : ByteArray} {depth : Nat} {st : ByteArray × Int} {ae : Int} (h1 : rTxt st = (d, (t, 0))) (h : depth < 8) (h2 : applyF base d = (ax, ae)) : oneD base depth st = ((ax, depth + 1, ae), (t, 0)) := by
  unfold oneD; rw [h1]; dsimp only; rw [if_neg (by simp), if_neg (by omega), h2]
theorem rTxt_small {t d t2 : ByteArray} {e : Int} (h : rTxt (t, e) = (d, (t2, 0))) : d.size ≤ 4096 := by
  have he : e = 0 := by have := rTxt_ok (st := (t, e)) (by rw [h]); exact this
  subst he
  have := (rTxt_bwd (s := t) (by rw [h])).2
  rw [h] at this; exact this

set_option maxRecDepth 100000 in
set_option maxHeartbeats 3200000 in
theorem one_any {g b n : Nat} {Dm : DataW Unit} (vl vd : Value) (w : World) (hr : RdSt w g st) (hs : st.1.size ≤ 140737488355328)
    (hl : ∀ wr, Upd (· = g) w wr → rdS wr vl l) (hd : ∀ wr, Upd (· = g) w wr → rdI wr vd (deep.map (fun k : Nat => (k : Int)))) (hm : ∀ wr, Upd (· = g) w wr → ownsS wr b n Dm) (rep : RepS Dm f)
    (hlen : deep.length = l.length) (hsl : smalls l) (hsf : ∀ k s, f k = some s → s.size ≤ 140737488355328) :
    Calls Tryd.prog 41 #[.pointer (some ⟨g, 0, none⟩), vl, vd, .map (some b)] w fun e w' =>
      e = .returned (.tuple #[.string (oneF st l deep f).1.1, .int .i64 (((oneF st l deep f).1.2.1 : Nat) : Int), .int .i64 (oneF st l deep f).1.2.2]) ∧ ((oneF st l deep f).1.2.2 = 0 → RdSt w' g (oneF st l deep f).2) ∧ Upd (· = g) w w' := by
  obtain ⟨F, hF⟩ : ∃ F, F = oneF st l deep f := ⟨_, rfl⟩
  rw [← hF]
  have HF := Lib.hid hF
  obtain ⟨a1, a2, rfl⟩ := rd_form (hl w (Upd.refl _ _))
  obtain ⟨DL, hDL⟩ : ∃ DL, DL = deep.map (fun k : Nat => (k : Int)) := ⟨_, rfl⟩
  rw [← hDL] at hd
  have HDL := Lib.hid (show DL.length = l.length by rw [hDL, List.length_map, hlen])
  have HDE := Lib.hid (show ∀ k, k < deep.length → DL.getD k 0 = ((deep.getD k 0 : Nat) : Int) from fun k hk => by rw [hDL]; exact deepI_at hk)
  obtain ⟨a3, a4, rfl⟩ := rd_form (hd w (Upd.refl _ _))
  clear hDL
  have HL := Lib.hid hl
  have HD := Lib.hid hd
  have HM := Lib.hid hm
  have HREP := Lib.hid rep
  have HLN := Lib.hid hlen
  have HSL := Lib.hid hsl
  have HSF := Lib.hid hsf
  clear hF hl hd hm rep hlen hsl hsf
  obtain ⟨⟨n0, t1, e1⟩, hq1⟩ : ∃ q, q = rNum st := ⟨_, rfl⟩
  have hc1 := rNumber_any hr (by have := hs; unfold maxLen; omega)
  rw [← hq1] at hc1
  have HQ1 := Lib.hid hq1.symm
  have HSZ1 := Lib.hid (show t1.size ≤ 140737488355328 by have := rNum_le st; rw [← hq1] at this; exact Nat.le_trans this hs)
  obtain ⟨nI, hnI⟩ : ∃ x : Int, x = (n0 : Int) := ⟨_, rfl⟩
  rw [← hnI] at hc1
  have HNI := Lib.hid hnI
  have HU0 := Lib.hid (Upd.refl (· = g) w)
  clear hq1 hnI
  go_enter Tryd.func41, Tryd.ntmps41
  have HC := Lib.hid (hc1)
  clear hc1 hr
  go_wp2_with fail
  (with_reducible refine HC.out.mono ?_)
  rintro e w1 ⟨rfl, hr, hu⟩
  have HR1 := Lib.hid hr
  have HU1 := Lib.hid (HU0.out.trans hu)
  clear HC hr hu
  have HC := Lib.hid (rBad_any HR1.out)
  go_wp2_with fail
  (with_reducible refine HC.out.mono ?_)
  rintro e wq ⟨rfl, rfl⟩
  clear HC
  by_cases h1 : e1 = 0
  · subst h1
    by_cases hn : 2 < n0
    · have t2 : decide ((2 : Int) < nI) = true := decide_eq_true (by have := HNI.out; omega)
      have hF := HF.out.trans (oneF_bad HQ1.out (.inr hn))
      clear HF hn
      subst hF
      go_wp2_with fail
      go_ret3
      exact ⟨rfl, by first | exact ⟨fun h => absurd h (by decide), HU1.out⟩ | exact HU1.out⟩
    · have t2 : decide ((2 : Int) < nI) = false := decide_eq_false (by have := HNI.out; omega)
      by_cases k0 : n0 = 0
      · subst k0
        have b0 : (nI == 0) = true := by rw [HNI.out]; rfl
        obtain ⟨⟨k, t2_, e2⟩, hq2⟩ : ∃ q, q = rNum (t1, 0) := ⟨_, rfl⟩
        have hc2 := rNumber_any HR1.out (by have := HSZ1.out; unfold maxLen; dsimp only; omega)
        rw [← hq2] at hc2
        have HQ2 := Lib.hid hq2.symm
        have HSZ2 := Lib.hid (show t2_.size ≤ 140737488355328 by have := rNum_le (t1, 0); rw [← hq2] at this; exact Nat.le_trans this HSZ1.out)
        clear hq2
        have HC := Lib.hid (hc2)
        clear hc2
        go_wp2_with fail
        (with_reducible refine HC.out.mono ?_)
        rintro e w2 ⟨rfl, hr, hu⟩
        have HR2 := Lib.hid hr
        have HU2 := Lib.hid (HU1.out.trans hu)
        clear HC hr hu
        obtain ⟨⟨s, t3, e3⟩, hq3⟩ : ∃ q, q = rByt (t2_, e2) (k : Int) := ⟨_, rfl⟩
        have hc3 := rBytes_any HR2.out (by have := HSZ2.out; dsimp only; omega) (k : Int)
        rw [← hq3] at hc3
        have HQ3 := Lib.hid hq3.symm
        clear hq3
        have HC := Lib.hid (hc3)
        clear hc3
        go_wp2_with fail
        (with_reducible refine HC.out.mono ?_)
        rintro e w3 ⟨rfl, hr, hu⟩
        have HR3 := Lib.hid hr
        have HU3 := Lib.hid (HU2.out.trans hu)
        clear HC hr hu
        have HC := Lib.hid (rBad_any HR3.out)
        go_wp2_with fail
        (with_reducible refine HC.out.mono ?_)
        rintro e wq ⟨rfl, rfl⟩
        clear HC
        by_cases h3 : e3 = 0
        · subst h3
          have hF := HF.out.trans (oneF_0 HQ1.out HQ2.out HQ3.out)
          clear HF
          subst hF
          go_wp2_with fail
          go_ret3
          exact ⟨rfl, by first | exact ⟨fun _ => HR3.out, HU3.out⟩ | exact ⟨HR3.out, HU3.out⟩⟩
        · have n1 : (e3 == 0) = false := beq_eq_false_iff_ne.2 h3
          have n2 : (e3 != 0) = true := by rw [bne, n1]; rfl
          have hF := HF.out.trans (oneF_0b HQ1.out HQ2.out HQ3.out h3)
          clear HF h3
          subst hF
          go_wp2_with fail
          go_ret3
          exact ⟨rfl, by first | exact ⟨fun h => absurd h (by decide), HU3.out⟩ | exact HU3.out⟩
      · have b0 : (nI == 0) = false := beq_eq_false_iff_ne.2 (by have := HNI.out; omega)
        by_cases k1 : n0 = 1
        · subst k1
          have b1 : (nI == 1) = true := by rw [HNI.out]; rfl
          obtain ⟨⟨k, t2_, e2⟩, hq2⟩ : ∃ q, q = rNum (t1, 0) := ⟨_, rfl⟩
          have hc2 := rNumber_any HR1.out (by have := HSZ1.out; unfold maxLen; dsimp only; omega)
          rw [← hq2] at hc2
          have HQ2 := Lib.hid hq2.symm
          have HSZ2 := Lib.hid (show t2_.size ≤ 140737488355328 by have := rNum_le (t1, 0); rw [← hq2] at this; exact Nat.le_trans this HSZ1.out)
          have HK62 := Lib.hid (show k < 4611686018427387904 by have := rNum_62 (t1, 0); rw [← hq2] at this; exact this)
          clear hq2
          have HC := Lib.hid (hc2)
          clear hc2
          go_wp2_with fail
          (with_reducible refine HC.out.mono ?_)
          rintro e w2 ⟨rfl, hr, hu⟩
          have HR2 := Lib.hid hr
          have HU2 := Lib.hid (HU1.out.trans hu)
          clear HC hr hu
          have HC := Lib.hid (rBad_any HR2.out)
          go_wp2_with fail
          (with_reducible refine HC.out.mono ?_)
          rintro e wq ⟨rfl, rfl⟩
          clear HC
          by_cases h2 : e2 = 0
          · subst h2
            by_cases hk : k < l.length
            · have kb : decide ((l.length : Int) ≤ (k : Int)) = false := decide_eq_false (by omega)
              have kb2 : decide (l.length ≤ k) = false := decide_eq_false (by omega)
              obtain ⟨bl, ol, hbl, _, _⟩ := rdS_at' (HL.out _ HU2.out) (by omega)
              subst hbl
              obtain ⟨bd, od, hbd, _, _⟩ := rdI_at (HD.out _ HU2.out) (by rw [HDL.out]; omega)
              subst hbd
              obtain ⟨base, hbase⟩ : ∃ x, x = l.getD k noB := ⟨_, rfl⟩
              obtain ⟨dp, hdp⟩ : ∃ x, x = deep.getD k 0 := ⟨_, rfl⟩
              have e0 := rdS_cl (HL.out _ HU2.out) hk
              rw [← hbase] at e0
              have g0 := rdI_cl (HD.out _ HU2.out) (show k < DL.length by rw [HDL.out]; exact hk)
              rw [HDE.out k (by rw [HLN.out]; exact hk), ← hdp] at g0
              have ki : (k : Int) < (l.length : Int) := by omega
              have ki2 : (k : Int) < (DL.length : Int) := by rw [HDL.out]; omega
              have kz : (0 : Int) ≤ (k : Int) := by omega
              have HBS := Lib.hid (show base.size ≤ 140737488355328 by rw [hbase]; exact smalls_at HSL.out k)
              have HF2 := Lib.hid (HF.out.trans (oneF_1 HQ1.out HQ2.out hk))
              rw [← hbase, ← hdp] at HF2
              clear HF
              have HF := Lib.hid HF2.out
              clear HF2 hbase hdp hk
              go_wp2_with fail
              refine Lone.wp_region_order [(0, false), (1, false), (2, false), (3, false), (4, false), (5, false), (6, false), (7, false), (8, false), (9, false)] (fun w' => w'.cell? ⟨bl, ol + k, none⟩ = some (.string base) ∧ w'.cell? ⟨bd, od + k, none⟩ = some (.int .i64 (dp : Int))) (by kernel_rfl) (by kernel_rfl) rfl (by kernel_rfl) (by intro _ _ d _ _ h; cases d <;> exact h) (⟨e0, g0⟩) ?_; simp only [List.map_cons, List.map_nil, List.getElem?_toArray, List.getElem?_cons_zero, List.getElem?_cons_succ, Option.getD_some]
              repeat (first | (refine Lone.ro_q (by rfl) (v := ?_) ?_ ?_; rotate_left; (focus (intro w' hSw; (try dsimp only at hSw); go_simp; try with_reducible rfl)); simp only [Act.put, List.setIfInBounds_toArray, List.set_cons_zero, List.set_cons_succ]) | (refine Lone.ro_skip (by rfl) ?_; simp only [Act.put, List.setIfInBounds_toArray, List.set_cons_zero, List.set_cons_succ]))
              (refine Lone.ro_nil ?_; go_wp2_with fail)
              clear e0 g0 ki ki2 kz kb kb2
              have HRd := Lib.hid (HR2.out.below (Below.refl w2.heap.size w2).drew)
              have HUd := Lib.hid HU2.out.drew
              have HSZd := Lib.hid HSZ2.out
              obtain ⟨⟨tx, t9, e9⟩, hq9⟩ : ∃ q, q = rTxt (t2_, 0) := ⟨_, rfl⟩
              have hc9 := rText_any HRd.out (by have := HSZd.out; show _ ≤ _; dsimp only; omega)
              rw [← hq9] at hc9
              have HQ9 := Lib.hid hq9.symm
              clear hq9
              have HC := Lib.hid (hc9)
              clear hc9
              go_wp2_with fail
              (with_reducible refine HC.out.mono ?_)
              rintro e w9 ⟨rfl, hr, hu⟩
              have HR9 := Lib.hid hr
              have HU9 := Lib.hid (HUd.out.trans hu)
              clear HC hr hu
              have HC := Lib.hid (rBad_any HR9.out)
              go_wp2_with fail
              (with_reducible refine HC.out.mono ?_)
              rintro e wq ⟨rfl, rfl⟩
              clear HC
              by_cases h9 : e9 = 0
              · subst h9
                have HX9 := Lib.hid (show tx.size ≤ 4096 from rTxt_small HQ9.out)
                by_cases hd8 : dp < 8
                · have d8 : decide ((8 : Int) ≤ ((dp : Nat) : Int)) = false := decide_eq_false (by omega)
                  have d9 : decide (8 ≤ dp) = false := decide_eq_false (by omega)
                  obtain ⟨⟨ax, ae⟩, hA⟩ : ∃ q, q = applyF base tx := ⟨_, rfl⟩
                  have HC := Lib.hid (apply_any base tx w9 HBS.out (by have := HX9.out; omega))
                  rw [← hA] at HC
                  have HA := Lib.hid hA.symm
                  have hF := HF.out.trans (oneD_ok HQ9.out hd8 HA.out)
                  clear HF hA
                  subst hF
                  have hd0 : (0 : Int) ≤ ((dp : Nat) : Int) := by omega
                  have hdI : ((dp : Nat) : Int) < 8 := by omega
                  clear hd8
                  go_wp2_with fail
                  (with_reducible refine HC.out.mono ?_)
                  rintro e wz ⟨rfl, hb⟩
                  have HUz := Lib.hid (HU9.out.trans (Upd.of_below hb))
                  have HRz := Lib.hid (HR9.out.below hb)
                  clear HC hb
                  go_wp2_with fail
                  go_ret3
                  exact ⟨by first | rfl | simp, by first | exact ⟨fun _ => HRz.out, HUz.out⟩ | exact ⟨HRz.out, HUz.out⟩⟩
                · have d8 : decide ((8 : Int) ≤ ((dp : Nat) : Int)) = true := decide_eq_true (by omega)
                  have d9 : decide (8 ≤ dp) = true := decide_eq_true (by omega)
                  have hF := HF.out.trans (oneD_deep HQ9.out (by omega))
                  clear HF hd8
                  subst hF
                  go_wp2_with fail
                  go_ret3
                  exact ⟨rfl, by first | exact ⟨fun h => absurd h (by decide), HU9.out⟩ | exact HU9.out⟩
              · have n1 : (e9 == 0) = false := beq_eq_false_iff_ne.2 h9
                have n2 : (e9 != 0) = true := by rw [bne, n1]; rfl
                have hF := HF.out.trans (oneD_bad HQ9.out h9)
                clear HF h9
                subst hF
                go_wp2_with fail
                go_ret3
                exact ⟨rfl, by first | exact ⟨fun h => absurd h (by decide), HU9.out⟩ | exact HU9.out⟩
            · have kb : decide ((l.length : Int) ≤ (k : Int)) = true := decide_eq_true (by omega)
              have kb2 : decide (l.length ≤ k) = true := decide_eq_true (by omega)
              have hF := HF.out.trans (oneF_1r HQ1.out HQ2.out (by omega))
              clear HF hk
              subst hF
              go_wp2_with fail
              go_ret3
              exact ⟨rfl, by first | exact ⟨fun h => absurd h (by decide), HU2.out⟩ | exact HU2.out⟩
          · have n1 : (e2 == 0) = false := beq_eq_false_iff_ne.2 h2
            have n2 : (e2 != 0) = true := by rw [bne, n1]; rfl
            have hF := HF.out.trans (oneF_1b HQ1.out HQ2.out h2)
            clear HF h2
            subst hF
            go_wp2_with fail
            go_ret3
            exact ⟨rfl, by first | exact ⟨fun h => absurd h (by decide), HU2.out⟩ | exact HU2.out⟩
        · have b1 : (nI == 1) = false := beq_eq_false_iff_ne.2 (by have := HNI.out; omega)
          obtain rfl : n0 = 2 := by omega
          clear hn k0 k1
          obtain ⟨⟨id, t2_, e2⟩, hq2⟩ : ∃ q, q = rByt (t1, 0) 32 := ⟨_, rfl⟩
          have hc2 := rBytes_any HR1.out (by have := HSZ1.out; dsimp only; omega) 32
          rw [← hq2] at hc2
          have HQ2 := Lib.hid hq2.symm
          have HSZ2 := Lib.hid (show t2_.size ≤ 140737488355328 by have := rByt_le (t1, 0) 32; rw [← hq2] at this; exact Nat.le_trans this HSZ1.out)
          have HID := Lib.hid (show id.size ≤ maxLen by have := rByt_out (t1, 0) 32; rw [← hq2] at this; have h2 := HSZ1.out; unfold maxLen; simp only at this; omega)
          clear hq2
          have HC := Lib.hid (hc2)
          clear hc2
          go_wp2_with fail
          (with_reducible refine HC.out.mono ?_)
          rintro e w2 ⟨rfl, hr, hu⟩
          have HR2 := Lib.hid hr
          have HU2 := Lib.hid (HU1.out.trans hu)
          clear HC hr hu
          have HC := Lib.hid (rBad_any HR2.out)
          go_wp2_with fail
          (with_reducible refine HC.out.mono ?_)
          rintro e wq ⟨rfl, rfl⟩
          clear HC
          by_cases h2 : e2 = 0
          · subst h2
            have hlk := look_str (HM.out _ HU2.out) HREP.out id HID.out
            obtain ⟨fo, hfo⟩ : ∃ fo, fo = f id := ⟨_, rfl⟩
            rw [← hfo] at hlk
            cases fo with
            | none =>
              have hF := HF.out.trans (oneF_2n HQ1.out HQ2.out hfo.symm)
              clear HF hfo
              simp only [Option.getD_none, Option.isSome_none] at hlk
              subst hF
              go_wp2_with fail
              go_ret3
              exact ⟨rfl, by first | exact ⟨fun h => absurd h (by decide), HU2.out⟩ | exact HU2.out⟩
            | some base =>
              have HBS := Lib.hid (HSF.out id base hfo.symm)
              have HF2 := Lib.hid (HF.out.trans (oneF_2 HQ1.out HQ2.out hfo.symm))
              clear HF
              have HF := Lib.hid HF2.out
              clear HF2 hfo
              simp only [Option.getD_some, Option.isSome_some] at hlk
              obtain ⟨dp, hdp⟩ : ∃ x : Nat, x = 0 := ⟨_, rfl⟩
              rw [← hdp] at HF
              have hdpI : ((0 : Nat) : Int) = ((dp : Nat) : Int) := by rw [hdp]
              subst hdp
              clear hdpI
              obtain ⟨⟨tx, t9, e9⟩, hq9⟩ : ∃ q, q = rTxt (t2_, 0) := ⟨_, rfl⟩
              have hc9 := rText_any HR2.out (by have := HSZ2.out; show _ ≤ _; dsimp only; omega)
              rw [← hq9] at hc9
              have HQ9 := Lib.hid hq9.symm
              clear hq9
              have HC := Lib.hid (hc9)
              clear hc9
              go_wp2_with fail
              (with_reducible refine HC.out.mono ?_)
              rintro e w9 ⟨rfl, hr, hu⟩
              have HR9 := Lib.hid hr
              have HU9 := Lib.hid (HU2.out.trans hu)
              clear HC hr hu
              have HC := Lib.hid (rBad_any HR9.out)
              go_wp2_with fail
              (with_reducible refine HC.out.mono ?_)
              rintro e wq ⟨rfl, rfl⟩
              clear HC
              by_cases h9 : e9 = 0
              · subst h9
                have HX9 := Lib.hid (show tx.size ≤ 4096 from rTxt_small HQ9.out)
                have hd8 : 0 < 8 := by decide
                have d8 : decide ((8 : Int) ≤ ((0 : Nat) : Int)) = false := decide_eq_false (by omega)
                have d9 : decide (8 ≤ 0) = false := decide_eq_false (by omega)
                obtain ⟨⟨ax, ae⟩, hA⟩ : ∃ q, q = applyF base tx := ⟨_, rfl⟩
                have HC := Lib.hid (apply_any base tx w9 HBS.out (by have := HX9.out; omega))
                rw [← hA] at HC
                have HA := Lib.hid hA.symm
                have hF := HF.out.trans (oneD_ok HQ9.out hd8 HA.out)
                clear HF hA
                subst hF
                have hd0 : (0 : Int) ≤ ((0 : Nat) : Int) := by omega
                have hdI : ((0 : Nat) : Int) < 8 := by omega
                clear hd8
                go_wp2_with fail
                (with_reducible refine HC.out.mono ?_)
                rintro e wz ⟨rfl, hb⟩
                have HUz := Lib.hid (HU9.out.trans (Upd.of_below hb))
                have HRz := Lib.hid (HR9.out.below hb)
                clear HC hb
                go_wp2_with fail
                go_ret3
                exact ⟨by first | rfl | simp, by first | exact ⟨fun _ => HRz.out, HUz.out⟩ | exact ⟨HRz.out, HUz.out⟩⟩
              · have n1 : (e9 == 0) = false := beq_eq_false_iff_ne.2 h9
                have n2 : (e9 != 0) = true := by rw [bne, n1]; rfl
                have hF := HF.out.trans (oneD_bad HQ9.out h9)
                clear HF h9
                subst hF
                go_wp2_with fail
                go_ret3
                exact ⟨rfl, by first | exact ⟨fun h => absurd h (by decide), HU9.out⟩ | exact HU9.out⟩
          · have n1 : (e2 == 0) = false := beq_eq_false_iff_ne.2 h2
            have n2 : (e2 != 0) = true := by rw [bne, n1]; rfl
            have hF := HF.out.trans (oneF_2b HQ1.out HQ2.out h2)
            clear HF h2
            subst hF
            go_wp2_with fail
            go_ret3
            exact ⟨rfl, by first | exact ⟨fun h => absurd h (by decide), HU2.out⟩ | exact HU2.out⟩
  · have n1 : (e1 == 0) = false := beq_eq_false_iff_ne.2 h1
    have n2 : (e1 != 0) = true := by rw [bne, n1]; rfl
    have hF := HF.out.trans (oneF_bad HQ1.out (.inl h1))
    clear HF h1
    subst hF
    go_wp2_with fail
    go_ret3
    exact ⟨rfl, by first | exact ⟨fun h => absurd h (by decide), HU1.out⟩ | exact HU1.out⟩
end Go.Proofs.YtalkheljejkpiaaDoor
