/- Slices of refs; the walk of package refs' Good. -/
import Derived.Test.YtnggcldpojebkaaDoorRefsLaw
import Derived.Test.YtnggcldpojebkaaDoorNamedR
import Derived.Test.YtnggcldpojebkaaDoorSlice
import Derived.Test.YtnggcldpojebkaaDoorHeap
import Derived.Test.YtnggcldpojebkaaDoorRegion
import Derived.Test.YtnggcldpojebkaaDoorRegion2
import Derived.BigRegion
import Derived.Deep.RegionWith
namespace Go.Proofs.YtnggcldpojebkaaDoor
open Go.RowKit
set_option linter.unusedVariables false
set_option linter.unusedSimpArgs false

def zeroRf : Rf := ⟨nilB, nilB⟩
def rvs (l : List Rf) : List Value := l.flatMap fun x => [.string x.name, .string x.id]
theorem rvs_length (l : List Rf) : (rvs l).length = l.length * 2 := by induction l with
  | nil => rfl
  | cons x l ih => rw [rvs, List.flatMap_cons, List.length_append, ← rvs, ih]; simp; omega
theorem rvs_append (a b : List Rf) : rvs (a ++ b) = rvs a ++ rvs b := by simp [rvs]
theorem rvs_take (l : List Rf) : ∀ k, (rvs l).take (k * 2) = rvs (l.take k) := by
  induction l with
  | nil => intro k; simp [rvs]
  | cons x l ih =>
    intro k
    cases k with
    | zero => simp [rvs]
    | succ k =>
      rw [show (k + 1) * 2 = k * 2 + 1 + 1 by omega]
      show Value.string x.name :: Value.string x.id :: (rvs l).take (k * 2) = _
      rw [ih k]; rfl
theorem rvs_drop (l : List Rf) : ∀ k, (rvs l).drop (k * 2) = rvs (l.drop k) := by
  induction l with
  | nil => intro k; simp [rvs]
  | cons x l ih =>
    intro k
    cases k with
    | zero => simp [rvs]
    | succ k =>
      rw [show (k + 1) * 2 = k * 2 + 1 + 1 by omega]
      exact ih k
theorem rvs_one (l : List Rf) : ∀ y ∈ rvs l, y.oneCell' = true := by
  intro y hy
  obtain ⟨x, _, hx⟩ := List.mem_flatMap.1 hy
  simp at hx
  rcases hx with rfl | rfl <;> rfl
def rdR (w : World) (v : Value) (l : List Rf) : Prop := rdRow w 2 v l.length (rvs l)
theorem rdR.below {w w' : World} {v : Value} {l : List Rf} (h : rdR w v l) (hb : Below w.heap.size w w') : rdR w' v l := rdRow.below h hb
theorem rdR_nil (w : World) : rdR w (.slice none 0 0) [] := ⟨rfl, none, 0, rfl, Nat.le_refl _, by decide, fun _ => rfl, fun _ h => by cases h⟩
theorem rdR_len {w : World} {v : Value} {l : List Rf} (hr : rdR w v l) : l.length ≤ 9223372036854775807 := by
  obtain ⟨_, ao, cap, rfl, h1, h2, _⟩ := hr
  unfold maxLen at h2; omega
theorem rdR_owns {w : World} {B : Nat} {v : Value} {l : List Rf} (h : w.ownsRow B 33 2 v l.length (rvs l)) : rdR w v l := rdRow_of_owns h
theorem rvs_get (l : List Rf) (k : Nat) (h : k < l.length) : (rvs l)[k * 2]? = some (.string (l.getD k zeroRf).name) ∧ (rvs l)[k * 2 + 1]? = some (.string (l.getD k zeroRf).id) := by
  induction l generalizing k with
  | nil => cases h
  | cons x l ih =>
    cases k with
    | zero => exact ⟨rfl, rfl⟩
    | succ k =>
      have := ih k (by simpa using h)
      rw [show (k + 1) * 2 = k * 2 + 2 by omega]
      exact this
theorem rdR_at {w : World} {ao : Option Addr} {n cap : Nat} {l : List Rf} (hr : rdRow w 2 (.slice ao n cap) l.length (rvs l)) (h : 0 < l.length) :
    ∃ b off, ao = some ⟨b, off, none⟩ ∧ b < w.heap.size ∧ ∀ k, k < l.length → w.cell? ⟨b, off + k * 2, none⟩ = some (.string (l.getD k zeroRf).name) ∧ w.cell? ⟨b, off + k * 2 + 1, none⟩ = some (.string (l.getD k zeroRf).id) := by
  obtain ⟨b, off, cap', hv, hc0, hb⟩ := rd_cell hr 0 _ (by have := (rvs_get l 0 h).1; simpa using this)
  injection hv with h1 h2 h3
  subst h1
  refine ⟨b, off, rfl, hb, fun k hk => ?_⟩
  obtain ⟨_, ao2, cap2, hv2, _, _, _, hc⟩ := hr
  injection hv2 with g1 g2 g3
  subst g1
  obtain ⟨e0, e1⟩ := rvs_get l k hk
  have c0 := hc _ rfl _ _ e0
  have c1 := hc _ rfl _ _ e1
  rw [add_none rfl] at c0 c1
  exact ⟨c0, by rw [Nat.add_assoc]; exact c1⟩

theorem meas_step {n k : Nat} (i : Int) (hi : i = ((k + 1 : Nat) : Int)) (h : k < n) : n - (intOf (.int .i64 i)).toNat < n - (intOf (.int .i64 ((k : Nat) : Int))).toNat := by
  subst hi
  simp only [intOf, Int.toNat_natCast]
  omega

/-! Good. -/
def rfOk (l : List Rf) (k : Nat) : Bool := namedR (l.getD k zeroRf).name && (decide ((l.getD k zeroRf).id.size = 32) && (decide (k = 0) || Op.bytesLess (l.getD (k - 1) zeroRf).name.toList (l.getD k zeroRf).name.toList))
open Classical in
noncomputable def goodRB (l : List Rf) : Bool := decide (GoodR namedR l)
theorem rsrt_of_adj : ∀ l : List Rf, (∀ k, 0 < k → k < l.length → lt (l.getD (k - 1) zeroRf).name (l.getD k zeroRf).name) → RSrt l
  | [], _ => List.Pairwise.nil
  | x :: l, h => by
    have ih := rsrt_of_adj l (fun k hk hl => by
      have := h (k + 1) (by omega) (by simpa using hl)
      obtain ⟨j, rfl⟩ : ∃ j, k = j + 1 := ⟨k - 1, by omega⟩
      simpa using this)
    refine List.pairwise_cons.2 ⟨fun y hy => ?_, ih⟩
    cases l with
    | nil => cases hy
    | cons z l =>
      have h1 : lt x.name z.name := by simpa using h 1 (by omega) (by simp)
      rcases List.mem_cons.1 hy with rfl | hy
      · exact h1
      · exact lt_trans h1 ((List.pairwise_cons.1 ih).1 y hy)
theorem radj_of_srt {l : List Rf} (h : RSrt l) {k : Nat} (hk : 0 < k) (hl : k < l.length) : lt (l.getD (k - 1) zeroRf).name (l.getD k zeroRf).name := by
  have := List.pairwise_iff_getElem.1 h (k - 1) k (by omega) hl (by omega)
  rw [List.getD, List.getD, List.getElem?_eq_getElem hl, List.getElem?_eq_getElem (show k - 1 < l.length by omega)]
  exact this
theorem goodRB_false {l : List Rf} (h : ¬ GoodR namedR l) : goodRB l = false := by
  classical
  unfold goodRB
  exact decide_eq_false h
theorem goodRB_true {l : List Rf} (h : GoodR namedR l) : goodRB l = true := by
  classical
  unfold goodRB
  exact decide_eq_true h
theorem goodRB_bad {l : List Rf} {k : Nat} (hk : k < l.length) (h : rfOk l k = false) : goodRB l = false := by
  refine goodRB_false fun g => ?_
  have hm : l.getD k zeroRf ∈ l := by rw [List.getD, List.getElem?_eq_getElem hk]; exact List.getElem_mem hk
  have h1 := g.name _ hm
  have h2 := g.size _ hm
  unfold rfOk at h
  rw [h1, decide_eq_true h2] at h
  rcases Nat.eq_zero_or_pos k with rfl | hp
  · simp at h
  · have := radj_of_srt g.srt hp hk
    unfold lt at this
    rw [this] at h
    simp at h
theorem goodRB_all {l : List Rf} (h : ∀ j, j < l.length → rfOk l j = true) : goodRB l = decide (l.length ≤ 32) := by
  by_cases hl : l.length ≤ 32
  · rw [decide_eq_true hl]
    refine goodRB_true ?_
    have key : ∀ x ∈ l, namedR x.name = true ∧ x.id.size = 32 := fun x hx => by
      obtain ⟨j, hj, rfl⟩ := List.mem_iff_getElem.1 hx
      have := h j hj
      unfold rfOk at this
      rw [List.getD, List.getElem?_eq_getElem hj] at this
      simp only [Option.getD_some, Bool.and_eq_true, decide_eq_true_eq] at this
      exact ⟨this.1, this.2.1⟩
    refine ⟨hl, rsrt_of_adj l (fun k hk hlt => ?_), fun x hx => (key x hx).1, fun x hx => (key x hx).2⟩
    have := h k hlt
    unfold rfOk at this
    simp only [Bool.and_eq_true, Bool.or_eq_true, decide_eq_true_eq] at this
    exact this.2.2.resolve_left (by omega)
  · rw [decide_eq_false hl]
    exact goodRB_false fun g => hl g.len
theorem goodRB_iff {l : List Rf} : goodRB l = true ↔ GoodR namedR l := ⟨fun h => Classical.byContradiction fun k => Bool.noConfusion ((goodRB_false k).symm.trans h), goodRB_true⟩
set_option maxRecDepth 100000 in
set_option maxHeartbeats 3200000 in
theorem goodR_any (l : List Rf) (v : Value) (w : World) (hr : rdR w v l) :
    Calls Tryd.prog 5 #[v] w fun e w' => e = .returned (.bool (goodRB l)) ∧ Below w.heap.size w w' := by
  obtain ⟨F, hF⟩ : ∃ F, F = goodRB l := ⟨_, rfl⟩
  rw [← hF]
  have HF := Lib.hid hF
  have hlen := rdR_len hr
  obtain ⟨ae, ce, rfl⟩ := rd_form hr
  have HE := Lib.hid hr
  have HLEN := Lib.hid hlen
  clear hF hr hlen
  go_enter Tryd.func5, Tryd.ntmps5
  go_wp2_with fail
  go_loopw [2, 7] (fun r i wr => ∃ k : Nat, k ≤ l.length ∧ r = .bool false ∧ i = .int .i64 (k : Int) ∧ Hid (∀ j, j < k → rfOk l j = true) ∧ Hid (Below w.heap.size w wr)) (fun _ i _ => l.length - (intOf i).toNat)
  case atStart => exact ⟨0, Nat.zero_le _, rfl, rfl, Lib.hid fun j hj => absurd hj (Nat.not_lt_zero _), Lib.hid (Below.refl _ _)⟩
  case round =>
    obtain ⟨k, hk, rfl, rfl, HALL, HBr⟩ := hrel
    by_cases hlt : k < l.length
    · have hki : (k : Int) < (l.length : Int) := by omega
      have hkb : decide ((k : Int) < (l.length : Int)) = true := decide_eq_true hki
      have hk0 : (0 : Int) ≤ (k : Int) := by omega
      have HW := Lib.hid (show IntKind.i64.wrap ((k : Int) + 1) = ((k + 1 : Nat) : Int) by rw [IntKind.wrap_i64]; have := HLEN.out; omega)
      obtain ⟨b, off, hae, hblt, hcell⟩ := rdR_at HE.out (by omega)
      obtain ⟨x, hx⟩ : ∃ x, x = l.getD k zeroRf := ⟨_, rfl⟩
      obtain ⟨d0, d1⟩ := hcell k hlt
      rw [← hx] at d0 d1
      rw [← HBr.out.cell (p := ⟨b, off + k * 2, none⟩) hblt] at d0
      rw [← HBr.out.cell (p := ⟨b, off + k * 2 + 1, none⟩) hblt] at d1
      have HCE := Lib.hid hcell
      subst hae
      obtain ⟨V, hV⟩ : ∃ V, wr.alloc (.cells #[.string x.name, .string x.id] 33) = V := ⟨_, rfl⟩
      have hbv : Below wr.heap.size wr V := by rw [← hV]; exact (Below.refl _ _).alloc (Nat.le_refl _) _
      have v0 : V.drew.cell? ⟨wr.heap.size, 0, none⟩ = some (.string x.name) := by rw [← hV]; exact cell_block 0 _ rfl
      have v1 : V.drew.cell? ⟨wr.heap.size, 1, none⟩ = some (.string x.id) := by rw [← hV]; exact cell_block 1 _ rfl
      have HBV := Lib.hid (show Below w.heap.size w V.drew from (HBr.out.trans (hbv.mono HBr.out.size)).drew)
      have HNM := Lib.hid (namedR_any x.name V.drew)
      have HLT := Lib.hid (show wr.heap.size < V.drew.heap.size by show _ < V.heap.size; rw [← hV]; simp)
      have HLT3 := Lib.hid (show b < V.drew.heap.size from Nat.lt_of_lt_of_le hblt HBV.out.size)
      have HLTE := Lib.hid hlt
      have HK := Lib.hid hk
      have HOKD := Lib.hid (show rfOk l k = (namedR x.name && (decide (x.id.size = 32) && (decide (k = 0) || Op.bytesLess (l.getD (k - 1) zeroRf).name.toList x.name.toList))) by rw [hx]; rfl)
      obtain ⟨nb, hnb⟩ : ∃ nb, nb = namedR x.name := ⟨_, rfl⟩
      rw [← hnb] at HOKD HNM
      clear hx hcell hnb hbv
      rcases Nat.eq_zero_or_pos k with hk00 | hk00
      · subst hk00
        simp only [Nat.zero_mul, Nat.add_zero] at d0 d1
        have z1 : (0 : Int) < (l.length : Int) := by omega
        have z2 : decide ((0 : Int) < (l.length : Int)) = true := decide_eq_true z1
        have z3 : 0 < l.length := hlt
        have hz : decide ((0 : Int) < (0 : Int)) = false := by simp
        have HCNZ := Lib.hid (show ((0 + 1 : Nat) : Int) = 1 from rfl)
        go_wp2_with fail
        refine Lone.wp_region_order [(0, false), (1, false), (2, true), (3, false), (4, false), (5, false), (6, false), (7, false), (8, false), (9, false), (10, false), (11, false), (12, false), (13, false), (14, false), (15, false), (16, false), (17, false), (18, false), (19, false), (20, false), (21, false), (22, false), (23, false), (24, false)] (fun w' => w'.cell? ⟨wr.heap.size, 0, none⟩ = some (.string x.name) ∧ w'.cell? ⟨wr.heap.size, 1, none⟩ = some (.string x.id)) (by kernel_rfl) (by kernel_rfl) rfl (by kernel_rfl) (by intro _ _ d _ _ h; cases d <;> exact h) (⟨v0, v1⟩) ?_; simp only [List.map_cons, List.map_nil, List.getElem?_toArray, List.getElem?_cons_zero, List.getElem?_cons_succ, Option.getD_some]
        repeat (first | (refine Lone.ro_q (by rfl) (v := ?_) ?_ ?_; rotate_left; (focus (intro w' hSw; (try dsimp only at hSw); go_simp; try with_reducible rfl)); simp only [Act.put, List.setIfInBounds_toArray, List.set_cons_zero, List.set_cons_succ]) | (refine Lone.ro_skip (by rfl) ?_; simp only [Act.put, List.setIfInBounds_toArray, List.set_cons_zero, List.set_cons_succ]))
        (refine Lone.ro_loud (by rfl) (fun K hK => ?_); go_simp)
        (with_reducible refine HNM.out.mono ?_)
        rintro e w4 ⟨rfl, hb4⟩
        have HB4 := Lib.hid (HBV.out.trans (hb4.mono HBV.out.size))
        have q0 := (hb4.cell (p := ⟨wr.heap.size, 0, none⟩) HLT.out).trans v0
        have q1 := (hb4.cell (p := ⟨wr.heap.size, 1, none⟩) HLT.out).trans v1
        clear hb4
        (refine hK.out _ _ (fun w' => w'.cell? ⟨wr.heap.size, 0, none⟩ = some (.string x.name) ∧ w'.cell? ⟨wr.heap.size, 1, none⟩ = some (.string x.id)) (.inl fun _ h => h) (⟨q0, q1⟩) ?_; clear hK K; try simp only [Act.put, List.setIfInBounds_toArray, List.set_cons_zero, List.set_cons_succ])
        cases nb with
        | false =>
          have HOK := Lib.hid (show rfOk l (0) = false by rw [HOKD.out]; rfl)
          have hF := HF.out.trans (goodRB_bad HLTE.out HOK.out)
          subst hF
          repeat (first | (refine Lone.ro_q (by rfl) (v := ?_) ?_ ?_; rotate_left; (focus (intro w' hSw; (try dsimp only at hSw); go_simp; try with_reducible rfl)); simp only [Act.put, List.setIfInBounds_toArray, List.set_cons_zero, List.set_cons_succ]) | (refine Lone.ro_skip (by rfl) ?_; simp only [Act.put, List.setIfInBounds_toArray, List.set_cons_zero, List.set_cons_succ]))
          (refine Lone.ro_nil ?_; go_wp2_with fail)
          go_ret
          exact ⟨rfl, HB4.out⟩
        | true =>
          by_cases hs : x.id.size = 32
          · have s1 : ((x.id.size : Int) == 32) = true := by rw [hs]; rfl
            have s2 : ((x.id.size : Int) != 32) = false := by rw [hs]; rfl
            have HS := Lib.hid hs
            clear hs
            have HOK := Lib.hid (show rfOk l (0) = true by rw [HOKD.out]; rw [decide_eq_true HS.out]; simp)
            repeat (first | (refine Lone.ro_q (by rfl) (v := ?_) ?_ ?_; rotate_left; (focus (intro w' hSw; (try dsimp only at hSw); go_simp; try with_reducible rfl)); simp only [Act.put, List.setIfInBounds_toArray, List.set_cons_zero, List.set_cons_succ]) | (refine Lone.ro_skip (by rfl) ?_; simp only [Act.put, List.setIfInBounds_toArray, List.set_cons_zero, List.set_cons_succ]))
            (refine Lone.ro_nil ?_; go_wp2_with fail)
            exact ⟨⟨(0) + 1, by have := HLTE.out; omega, rfl, by first | (rw [HCNZ.out]; done) | (rw [HCNP.out, hw2]), Lib.hid fun j hj => by (by_cases hjk : j = (0); rw [hjk]; exact HOK.out; exact HALL.out j (by omega)), HB4⟩, meas_step (k := (0)) _ (rfl) HLTE.out⟩
          · have s1 : ((x.id.size : Int) == 32) = false := beq_eq_false_iff_ne.2 (by omega)
            have s2 : ((x.id.size : Int) != 32) = true := by rw [bne, s1]; rfl
            have HS := Lib.hid hs
            clear hs
            have HOK := Lib.hid (show rfOk l (0) = false by rw [HOKD.out]; rw [decide_eq_false HS.out]; simp)
            have hF := HF.out.trans (goodRB_bad HLTE.out HOK.out)
            subst hF
            repeat (first | (refine Lone.ro_q (by rfl) (v := ?_) ?_ ?_; rotate_left; (focus (intro w' hSw; (try dsimp only at hSw); go_simp; try with_reducible rfl)); simp only [Act.put, List.setIfInBounds_toArray, List.set_cons_zero, List.set_cons_succ]) | (refine Lone.ro_skip (by rfl) ?_; simp only [Act.put, List.setIfInBounds_toArray, List.set_cons_zero, List.set_cons_succ]))
            (refine Lone.ro_nil ?_; go_wp2_with fail)
            go_ret
            exact ⟨rfl, HB4.out⟩
      · obtain ⟨m, rfl⟩ : ∃ m, k = m + 1 := ⟨k - 1, by omega⟩
        obtain ⟨p, hp⟩ : ∃ p, p = l.getD m zeroRf := ⟨_, rfl⟩
        have vp := (HBV.out.cell (p := ⟨b, off + m * 2, none⟩) hblt).trans (HCE.out m (by omega)).1
        rw [← hp] at vp
        have hmi : (m : Int) < (l.length : Int) := by omega
        have hm0 : (0 : Int) ≤ (m : Int) := by omega
        have hmn : m < l.length := by omega
        have hmw : IntKind.i64.wrap (m : Int) = (m : Int) := by rw [IntKind.wrap_i64]; have := HLEN.out; omega
        have hw2 : wrap64 ((m : Int) + 1 + 1) = (m : Int) + 1 + 1 := IntWalk.wrap64_in _ (by have := HLEN.out; omega)
        have HCNP := Lib.hid (show ((m + 1 + 1 : Nat) : Int) = (m : Int) + 1 + 1 by omega)
        have hpos : decide ((0 : Int) < ((m + 1 : Nat) : Int)) = true := decide_eq_true (by omega)
        rw [Nat.add_sub_cancel, ← hp] at HOKD
        clear hp
        go_wp2_with fail
        refine Lone.wp_region_order [(0, false), (1, false), (2, true), (3, false), (4, false), (5, false), (6, false), (7, false), (8, false), (9, false), (10, false), (11, false), (12, false), (13, false), (14, false), (15, false), (16, false), (17, false), (18, false), (19, false), (20, false), (21, false), (22, false), (23, false), (24, false)] (fun w' => w'.cell? ⟨wr.heap.size, 0, none⟩ = some (.string x.name) ∧ w'.cell? ⟨wr.heap.size, 1, none⟩ = some (.string x.id) ∧ w'.cell? ⟨b, off + m * 2, none⟩ = some (.string p.name)) (by kernel_rfl) (by kernel_rfl) rfl (by kernel_rfl) (by intro _ _ d _ _ h; cases d <;> exact h) (⟨v0, v1, vp⟩) ?_; simp only [List.map_cons, List.map_nil, List.getElem?_toArray, List.getElem?_cons_zero, List.getElem?_cons_succ, Option.getD_some]
        repeat (first | (refine Lone.ro_q (by rfl) (v := ?_) ?_ ?_; rotate_left; (focus (intro w' hSw; (try dsimp only at hSw); go_simp; try with_reducible rfl)); simp only [Act.put, List.setIfInBounds_toArray, List.set_cons_zero, List.set_cons_succ]) | (refine Lone.ro_skip (by rfl) ?_; simp only [Act.put, List.setIfInBounds_toArray, List.set_cons_zero, List.set_cons_succ]))
        (refine Lone.ro_loud (by rfl) (fun K hK => ?_); go_simp)
        (with_reducible refine HNM.out.mono ?_)
        rintro e w4 ⟨rfl, hb4⟩
        have HB4 := Lib.hid (HBV.out.trans (hb4.mono HBV.out.size))
        have q0 := (hb4.cell (p := ⟨wr.heap.size, 0, none⟩) HLT.out).trans v0
        have q1 := (hb4.cell (p := ⟨wr.heap.size, 1, none⟩) HLT.out).trans v1
        have qp := (hb4.cell (p := ⟨b, off + m * 2, none⟩) HLT3.out).trans vp
        clear hb4
        (refine hK.out _ _ (fun w' => w'.cell? ⟨wr.heap.size, 0, none⟩ = some (.string x.name) ∧ w'.cell? ⟨wr.heap.size, 1, none⟩ = some (.string x.id) ∧ w'.cell? ⟨b, off + m * 2, none⟩ = some (.string p.name)) (.inl fun _ h => h) (⟨q0, q1, qp⟩) ?_; clear hK K; try simp only [Act.put, List.setIfInBounds_toArray, List.set_cons_zero, List.set_cons_succ])
        cases nb with
        | false =>
          have HOK := Lib.hid (show rfOk l (m + 1) = false by rw [HOKD.out]; rfl)
          have hF := HF.out.trans (goodRB_bad HLTE.out HOK.out)
          subst hF
          repeat (first | (refine Lone.ro_q (by rfl) (v := ?_) ?_ ?_; rotate_left; (focus (intro w' hSw; (try dsimp only at hSw); go_simp; try with_reducible rfl)); simp only [Act.put, List.setIfInBounds_toArray, List.set_cons_zero, List.set_cons_succ]) | (refine Lone.ro_skip (by rfl) ?_; simp only [Act.put, List.setIfInBounds_toArray, List.set_cons_zero, List.set_cons_succ]))
          (refine Lone.ro_nil ?_; go_wp2_with fail)
          go_ret
          exact ⟨rfl, HB4.out⟩
        | true =>
          by_cases hs : x.id.size = 32
          · have s1 : ((x.id.size : Int) == 32) = true := by rw [hs]; rfl
            have s2 : ((x.id.size : Int) != 32) = false := by rw [hs]; rfl
            have HS := Lib.hid hs
            clear hs
            cases hle : Op.bytesLess p.name.toList x.name.toList with
            | true =>
              have HOK := Lib.hid (show rfOk l (m + 1) = true by rw [HOKD.out]; rw [decide_eq_true HS.out, hle]; simp)
              repeat (first | (refine Lone.ro_q (by rfl) (v := ?_) ?_ ?_; rotate_left; (focus (intro w' hSw; (try dsimp only at hSw); go_simp; try with_reducible rfl)); simp only [Act.put, List.setIfInBounds_toArray, List.set_cons_zero, List.set_cons_succ]) | (refine Lone.ro_skip (by rfl) ?_; simp only [Act.put, List.setIfInBounds_toArray, List.set_cons_zero, List.set_cons_succ]))
              (refine Lone.ro_nil ?_; go_wp2_with fail)
              exact ⟨⟨(m + 1) + 1, by have := HLTE.out; omega, rfl, by first | (rw [HCNP.out]; done) | (rw [HCNP.out, hw2]), Lib.hid fun j hj => by (by_cases hjk : j = (m + 1); rw [hjk]; exact HOK.out; exact HALL.out j (by omega)), HB4⟩, meas_step (k := (m + 1)) _ (hw2.trans HCNP.out.symm) HLTE.out⟩
            | false =>
              have HOK := Lib.hid (show rfOk l (m + 1) = false by rw [HOKD.out]; rw [decide_eq_true HS.out, hle]; simp)
              have hF := HF.out.trans (goodRB_bad HLTE.out HOK.out)
              subst hF
              repeat (first | (refine Lone.ro_q (by rfl) (v := ?_) ?_ ?_; rotate_left; (focus (intro w' hSw; (try dsimp only at hSw); go_simp; try with_reducible rfl)); simp only [Act.put, List.setIfInBounds_toArray, List.set_cons_zero, List.set_cons_succ]) | (refine Lone.ro_skip (by rfl) ?_; simp only [Act.put, List.setIfInBounds_toArray, List.set_cons_zero, List.set_cons_succ]))
              (refine Lone.ro_nil ?_; go_wp2_with fail)
              go_ret
              exact ⟨rfl, HB4.out⟩
          · have s1 : ((x.id.size : Int) == 32) = false := beq_eq_false_iff_ne.2 (by omega)
            have s2 : ((x.id.size : Int) != 32) = true := by rw [bne, s1]; rfl
            have HS := Lib.hid hs
            clear hs
            have HOK := Lib.hid (show rfOk l (m + 1) = false by rw [HOKD.out]; rw [decide_eq_false HS.out]; simp)
            have hF := HF.out.trans (goodRB_bad HLTE.out HOK.out)
            subst hF
            repeat (first | (refine Lone.ro_q (by rfl) (v := ?_) ?_ ?_; rotate_left; (focus (intro w' hSw; (try dsimp only at hSw); go_simp; try with_reducible rfl)); simp only [Act.put, List.setIfInBounds_toArray, List.set_cons_zero, List.set_cons_succ]) | (refine Lone.ro_skip (by rfl) ?_; simp only [Act.put, List.setIfInBounds_toArray, List.set_cons_zero, List.set_cons_succ]))
            (refine Lone.ro_nil ?_; go_wp2_with fail)
            go_ret
            exact ⟨rfl, HB4.out⟩
    · have hkn : k = l.length := by omega
      subst hkn
      have hF := HF.out.trans (goodRB_all HALL.out)
      have hkb : decide ((l.length : Int) < (l.length : Int)) = false := by simp
      obtain ⟨b, hb⟩ : ∃ b, b = decide (l.length ≤ 32) := ⟨_, rfl⟩
      have hbi : decide ((l.length : Int) ≤ 32) = b := hb ▸ decide_eq_decide.2 (by omega)
      rw [← hb] at hF
      subst hF
      clear hlt hk HALL hb
      go_wp2_with fail
      go_ret
      exact ⟨rfl, HBr.out⟩
end Go.Proofs.YtnggcldpojebkaaDoor
