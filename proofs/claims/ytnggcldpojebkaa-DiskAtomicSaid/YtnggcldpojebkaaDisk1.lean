/- The walks of package disk's Named and Good. -/
import Derived.Test.YtnggcldpojebkaaDiskLaw
import Derived.Test.YtnggcldpojebkaaContains
import Derived.Test.YtnggcldpojebkaaSlice
import Derived.Test.YtnggcldpojebkaaRegion
import Derived.Test.YtnggcldpojebkaaRegion2
namespace Go.Proofs.Ytnggcldpojebkaa
open Go.RowKit
set_option linter.unusedVariables false
set_option linter.unusedSimpArgs false

def badN (c : Nat) : Bool := (decide (c < 97) || decide (122 < c)) && ((decide (c < 48) || decide (57 < c)) && (decide (c ≠ 46) && decide (c ≠ 45)))
def namedD (s : ByteArray) : Bool := decide (s ≠ nilB) && (decide (s.size ≤ 80) && !hasP badN s)
theorem namedN_pays (w : World) : PredAt Try.prog 45 #[] encR badN w := fun W r _ => by
  unfold FnGives
  by_cases h1 : r < 97 <;> by_cases h2 : 122 < r <;> by_cases h3 : r < 48 <;> by_cases h4 : 57 < r <;> by_cases h5 : r = 46 <;> by_cases h6 : r = 45
  all_goals first | (exfalso; omega) | skip
  all_goals
    have z1 : (r : Int) < 97 ↔ r < 97 := by omega
    have z2 : (122 : Int) < (r : Int) ↔ 122 < r := by omega
    have z3 : (r : Int) < 48 ↔ r < 48 := by omega
    have z4 : (57 : Int) < (r : Int) ↔ 57 < r := by omega
    have z5 : (r : Int) = 46 ↔ r = 46 := by omega
    have z6 : (r : Int) = 45 ↔ r = 45 := by omega
    go_enter Try.func45, Try.ntmps45
    go_wp2
    all_goals first | (exfalso; omega) | (go_ret; exact ⟨by simp [badN, h1, h2, h3, h4, h5, h6, z1, z2, z3, z4, z5, z6], 0, rfl⟩)
theorem isEmptyD (s : ByteArray) : s.toList.isEmpty = decide (s = nilB) := by
  rw [Bool.eq_iff_iff, decide_eq_true_eq, List.isEmpty_iff]
  constructor
  · intro h; exact toList_inj (h.trans (by rw [ByteArray.toList_eq]; rfl))
  · intro h; rw [h, ByteArray.toList_eq]; rfl
set_option maxRecDepth 100000 in
set_option maxHeartbeats 3200000 in
theorem namedD_any (s : ByteArray) (w : World) : Calls Try.prog 33 #[.string s] w fun e w' => e = .returned (.bool (namedD s)) ∧ Below w.heap.size w w' := by
  have HC := Lib.hid (contains_any 45 (enters_of Try.func45 (by kernel_rfl) rfl) badN s w (namedN_pays w))
  obtain ⟨r, hr⟩ : ∃ r, r = namedD s := ⟨_, rfl⟩
  rw [← hr]
  unfold namedD at hr
  obtain ⟨b, hb⟩ : ∃ b, b = hasP badN s := ⟨_, rfl⟩
  rw [← hb] at HC hr
  clear hb
  by_cases h1 : s = nilB
  · have hE : s.toList.isEmpty = true := by rw [isEmptyD]; exact decide_eq_true h1
    obtain rfl : r = false := by rw [hr]; simp [h1]
    clear hr h1
    go_enter Try.func33, Try.ntmps33
    go_wp2_with fail
    go_ret
    exact ⟨rfl, Below.refl _ _⟩
  · have hE : s.toList.isEmpty = false := by rw [isEmptyD]; exact decide_eq_false h1
    by_cases h2 : s.size ≤ 80
    · have h2i : (s.size : Int) ≤ 80 := by omega
      have h2b : decide ((s.size : Int) ≤ 80) = true := decide_eq_true h2i
      have h2n : decide (s.size ≤ 80) = true := decide_eq_true h2
      rw [h2n, decide_eq_true h1] at hr
      obtain rfl : r = !b := by rw [hr]; rfl
      clear hr h1 h2
      go_enter Try.func33, Try.ntmps33
      go_wp2_with fail
      (with_reducible refine HC.out.mono ?_)
      rintro e w1 ⟨rfl, hb⟩
      have HB := Lib.hid hb
      clear hb HC
      go_wp2_with fail
      go_ret
      exact ⟨rfl, HB.out⟩
    · have h2i : ¬ (s.size : Int) ≤ 80 := by omega
      have h2b : decide ((s.size : Int) ≤ 80) = false := decide_eq_false h2i
      have h2n : decide (s.size ≤ 80) = false := decide_eq_false h2
      obtain rfl : r = false := by rw [hr, h2n]; simp
      clear hr h1 h2
      go_enter Try.func33, Try.ntmps33
      go_wp2_with fail
      go_ret
      exact ⟨rfl, Below.refl _ _⟩

/-! Slices of files. -/
def zeroFil : Fil := ⟨nilB, nilB, nilB⟩
def fvs (l : List Fil) : List Value := l.flatMap fun x => [.string x.name, .string x.safe, .string x.tail]
theorem fvs_length (l : List Fil) : (fvs l).length = l.length * 3 := by induction l with
  | nil => rfl
  | cons x l ih => rw [fvs, List.flatMap_cons, List.length_append, ← fvs, ih]; simp; omega
theorem fvs_append (a b : List Fil) : fvs (a ++ b) = fvs a ++ fvs b := by simp [fvs]
theorem fvs_take (l : List Fil) : ∀ k, (fvs l).take (k * 3) = fvs (l.take k) := by
  induction l with
  | nil => intro k; simp [fvs]
  | cons x l ih =>
    intro k
    cases k with
    | zero => simp [fvs]
    | succ k =>
      rw [show (k + 1) * 3 = k * 3 + 1 + 1 + 1 by omega]
      show Value.string x.name :: Value.string x.safe :: Value.string x.tail :: (fvs l).take (k * 3) = _
      rw [ih k]; rfl
theorem fvs_drop (l : List Fil) : ∀ k, (fvs l).drop (k * 3) = fvs (l.drop k) := by
  induction l with
  | nil => intro k; simp [fvs]
  | cons x l ih =>
    intro k
    cases k with
    | zero => simp [fvs]
    | succ k =>
      rw [show (k + 1) * 3 = k * 3 + 1 + 1 + 1 by omega]
      exact ih k
theorem fvs_one (l : List Fil) : ∀ y ∈ fvs l, y.oneCell' = true := by
  intro y hy
  obtain ⟨x, _, hx⟩ := List.mem_flatMap.1 hy
  simp at hx
  rcases hx with rfl | rfl | rfl <;> rfl
def rdF (w : World) (v : Value) (l : List Fil) : Prop := rdRow w 3 v l.length (fvs l)
theorem rdF.below {w w' : World} {v : Value} {l : List Fil} (h : rdF w v l) (hb : Below w.heap.size w w') : rdF w' v l := rdRow.below h hb
theorem rdF_nil (w : World) : rdF w (.slice none 0 0) [] := ⟨rfl, none, 0, rfl, Nat.le_refl _, by decide, fun _ => rfl, fun _ h => by cases h⟩
theorem rdF_len {w : World} {v : Value} {l : List Fil} (hr : rdF w v l) : l.length ≤ 9223372036854775807 := by
  obtain ⟨_, ao, cap, rfl, h1, h2, _⟩ := hr
  unfold maxLen at h2; omega
theorem rdF_owns {w : World} {B : Nat} {v : Value} {l : List Fil} (h : w.ownsRow B 60 3 v l.length (fvs l)) : rdF w v l := rdRow_of_owns h
theorem fvs_get (l : List Fil) (k : Nat) (h : k < l.length) : (fvs l)[k * 3]? = some (.string (l.getD k zeroFil).name) ∧ (fvs l)[k * 3 + 1]? = some (.string (l.getD k zeroFil).safe) ∧ (fvs l)[k * 3 + 2]? = some (.string (l.getD k zeroFil).tail) := by
  induction l generalizing k with
  | nil => cases h
  | cons x l ih =>
    cases k with
    | zero => exact ⟨rfl, rfl, rfl⟩
    | succ k =>
      have := ih k (by simpa using h)
      rw [show (k + 1) * 3 = k * 3 + 3 by omega]
      exact this
theorem rdF_at {w : World} {ao : Option Addr} {n cap : Nat} {l : List Fil} (hr : rdRow w 3 (.slice ao n cap) l.length (fvs l)) (h : 0 < l.length) :
    ∃ b off, ao = some ⟨b, off, none⟩ ∧ b < w.heap.size ∧ ∀ k, k < l.length → w.cell? ⟨b, off + k * 3, none⟩ = some (.string (l.getD k zeroFil).name) ∧ w.cell? ⟨b, off + k * 3 + 1, none⟩ = some (.string (l.getD k zeroFil).safe) ∧ w.cell? ⟨b, off + k * 3 + 2, none⟩ = some (.string (l.getD k zeroFil).tail) := by
  obtain ⟨b, off, cap', hv, hc0, hb⟩ := rd_cell hr 0 _ (by have := (fvs_get l 0 h).1; simpa using this)
  injection hv with h1 h2 h3
  subst h1
  refine ⟨b, off, rfl, hb, fun k hk => ?_⟩
  obtain ⟨_, ao2, cap2, hv2, _, _, _, hc⟩ := hr
  injection hv2 with g1 g2 g3
  subst g1
  obtain ⟨e0, e1, e2⟩ := fvs_get l k hk
  have c0 := hc _ rfl _ _ e0
  have c1 := hc _ rfl _ _ e1
  have c2 := hc _ rfl _ _ e2
  rw [add_none rfl] at c0 c1 c2
  exact ⟨c0, by rw [Nat.add_assoc]; exact c1, by rw [Nat.add_assoc]; exact c2⟩

/-! Good. -/
def filOk (l : List Fil) (k : Nat) : Bool := namedD (l.getD k zeroFil).name && ((decide (k = 0) || Op.bytesLess (l.getD (k - 1) zeroFil).name.toList (l.getD k zeroFil).name.toList) && decide ((l.getD k zeroFil).safe.size + (l.getD k zeroFil).tail.size ≤ 1048576))
open Classical in
noncomputable def goodB (l : List Fil) : Bool := decide (GoodL namedD l)
theorem srt_of_adj : ∀ l : List Fil, (∀ k, 0 < k → k < l.length → lt (l.getD (k - 1) zeroFil).name (l.getD k zeroFil).name) → FSrt l
  | [], _ => List.Pairwise.nil
  | x :: l, h => by
    have ih := srt_of_adj l (fun k hk hl => by
      have := h (k + 1) (by omega) (by simpa using hl)
      obtain ⟨j, rfl⟩ : ∃ j, k = j + 1 := ⟨k - 1, by omega⟩
      simpa using this)
    refine List.pairwise_cons.2 ⟨fun y hy => ?_, ih⟩
    cases l with
    | nil => cases hy
    | cons z l =>
      have h1 : lt x.name z.name := by simpa using h 1 (by omega) (by simp)
      rcases List.mem_cons.1 hy with rfl | hy
      · exact h1
      · exact lt_trans h1 ((List.pairwise_cons.1 ih).1 y hy)
theorem adj_of_srt {l : List Fil} (h : FSrt l) {k : Nat} (hk : 0 < k) (hl : k < l.length) : lt (l.getD (k - 1) zeroFil).name (l.getD k zeroFil).name := by
  have := List.pairwise_iff_getElem.1 h (k - 1) k (by omega) hl (by omega)
  rw [List.getD, List.getD, List.getElem?_eq_getElem hl, List.getElem?_eq_getElem (show k - 1 < l.length by omega)]
  exact this
theorem goodB_false {l : List Fil} (h : ¬ GoodL namedD l) : goodB l = false := by
  classical
  unfold goodB
  exact decide_eq_false h
theorem goodB_true {l : List Fil} (h : GoodL namedD l) : goodB l = true := by
  classical
  unfold goodB
  exact decide_eq_true h
theorem goodB_bad {l : List Fil} (hl : l.length ≤ 400) {k : Nat} (hk : k < l.length) (h : filOk l k = false) : goodB l = false := by
  refine goodB_false fun g => ?_
  have hm : l.getD k zeroFil ∈ l := by rw [List.getD, List.getElem?_eq_getElem hk]; exact List.getElem_mem hk
  have h1 := g.name _ hm
  have h2 := g.size _ hm
  unfold filOk at h
  rw [h1, decide_eq_true h2] at h
  rcases Nat.eq_zero_or_pos k with rfl | hp
  · simp at h
  · have := adj_of_srt g.srt hp hk
    unfold lt at this
    rw [this] at h
    simp at h
theorem goodB_good {l : List Fil} (hl : l.length ≤ 400) (h : ∀ j, j < l.length → filOk l j = true) : goodB l = true := by
  refine goodB_true ?_
  have key : ∀ x ∈ l, namedD x.name = true ∧ x.safe.size + x.tail.size ≤ 1048576 := fun x hx => by
    obtain ⟨j, hj, rfl⟩ := List.mem_iff_getElem.1 hx
    have := h j hj
    unfold filOk at this
    rw [List.getD, List.getElem?_eq_getElem hj] at this
    simp only [Option.getD_some, Bool.and_eq_true, decide_eq_true_eq] at this
    exact ⟨this.1, this.2.2⟩
  refine ⟨hl, srt_of_adj l (fun k hk hlt => ?_), fun x hx => (key x hx).1, fun x hx => (key x hx).2⟩
  have := h k hlt
  unfold filOk at this
  simp only [Bool.and_eq_true, Bool.or_eq_true, decide_eq_true_eq] at this
  exact this.2.1.resolve_left (by omega)
theorem goodB_long {l : List Fil} (hl : 400 < l.length) : goodB l = false := by
  refine goodB_false fun g => ?_
  have := g.len; omega
theorem goodB_iff {l : List Fil} : goodB l = true ↔ GoodL namedD l := ⟨fun h => Classical.byContradiction fun k => Bool.noConfusion ((goodB_false k).symm.trans h), goodB_true⟩
set_option maxRecDepth 100000 in
set_option maxHeartbeats 3200000 in
theorem goodD_any (l : List Fil) (v : Value) (fu : Int) (w : World) (hr : rdF w v l) :
    Calls Try.prog 13 #[.agg #[v, .int .i64 fu]] w fun e w' => e = .returned (.bool (goodB l)) ∧ Below w.heap.size w w' := by
  obtain ⟨F, hF⟩ : ∃ F, F = goodB l := ⟨_, rfl⟩
  rw [← hF]
  have HF := Lib.hid hF
  have hlen := rdF_len hr
  obtain ⟨ae, ce, rfl⟩ := rd_form hr
  have g0 : (w.alloc (.cells #[.slice ae l.length ce, .int .i64 fu] 30)).heap[w.heap.size]? = some (.cells #[.slice ae l.length ce, .int .i64 fu] 30 (0, 0)) := heap_alloc_new _ _
  have hb1 : Below w.heap.size w (w.alloc (.cells #[.slice ae l.length ce, .int .i64 fu] 30)) := (Below.refl _ _).alloc (Nat.le_refl _) _
  have HE := Lib.hid (hr.below hb1)
  have HW0 := Lib.hid hb1
  obtain ⟨W, hW⟩ : ∃ W, w.alloc (.cells #[.slice ae l.length ce, .int .i64 fu] 30) = W := ⟨_, rfl⟩
  rw [hW] at g0 HE HW0
  have HG := Lib.hid (fun wr (h : Below W.heap.size W wr) => blk_below g0 h)
  have c0 := (cell_of_two g0).1
  have HB1 := Lib.hid (Below.refl W.heap.size W)
  clear hF hr hb1
  by_cases h4 : 400 < l.length
  · have hF := HF.out.trans (goodB_long h4)
    subst hF
    have f4 : decide ((400 : Int) < (l.length : Int)) = true := decide_eq_true (by omega)
    have f4n : decide (400 < l.length) = true := decide_eq_true h4
    clear h4
    go_enter Try.func13, Try.ntmps13
    go_wp2_with fail
    go_ret
    exact ⟨rfl, HW0.out.trans (HB1.out.mono HW0.out.size)⟩
  · have f4 : decide ((400 : Int) < (l.length : Int)) = false := decide_eq_false (by omega)
    have f4n : decide (400 < l.length) = false := decide_eq_false h4
    have hlen4 : l.length ≤ 400 := by omega
    have HLEN := Lib.hid hlen4
    clear h4 hlen
    go_enter Try.func13, Try.ntmps13
    go_wp2_with fail
    go_loopw [12] (fun i wr => ∃ k : Nat, k ≤ l.length ∧ i = .int .i64 (k : Int) ∧ (∀ j, j < k → filOk l j = true) ∧ Below W.heap.size W wr) (fun i _ => l.length - (intOf i).toNat)
    case atStart => exact ⟨0, Nat.zero_le _, rfl, fun j hj => absurd hj (Nat.not_lt_zero _), HB1.out⟩
    case round =>
      clear c0
      obtain ⟨k, hk, rfl, hall, hB⟩ := hrel
      have HALL := Lib.hid hall
      have HBr := Lib.hid hB
      have gr := HG.out _ hB
      have c0 := (cell_of_two gr).1
      clear hall hB
      by_cases hlt : k < l.length
      · have hki : (k : Int) < (l.length : Int) := by omega
        have hkb : decide ((k : Int) < (l.length : Int)) = true := decide_eq_true hki
        have hkn : decide (k < l.length) = true := decide_eq_true hlt
        have hk0 : (0 : Int) ≤ (k : Int) := by omega
        obtain ⟨b, off, hae, hblt, hcell⟩ := rdF_at HE.out (by omega)
        obtain ⟨x, hx⟩ : ∃ x, x = l.getD k zeroFil := ⟨_, rfl⟩
        obtain ⟨d0, d1, d2⟩ := hcell k hlt
        rw [← hx] at d0 d1 d2
        rw [← HBr.out.cell (p := ⟨b, off + k * 3, none⟩) hblt] at d0
        rw [← HBr.out.cell (p := ⟨b, off + k * 3 + 1, none⟩) hblt] at d1
        rw [← HBr.out.cell (p := ⟨b, off + k * 3 + 2, none⟩) hblt] at d2
        have HX := Lib.hid hx
        have HCE := Lib.hid hcell
        subst hae
        obtain ⟨V, hV⟩ : ∃ V, wr.alloc (.cells #[.string x.name, .string x.safe, .string x.tail] 60) = V := ⟨_, rfl⟩
        have hbv : Below wr.heap.size wr V := by rw [← hV]; exact (Below.refl _ _).alloc (Nat.le_refl _) _
        have v0 : V.drew.cell? ⟨wr.heap.size, 0, none⟩ = some (.string x.name) := by rw [← hV]; exact cell_block 0 _ rfl
        have v1 : V.drew.cell? ⟨wr.heap.size, 1, none⟩ = some (.string x.safe) := by rw [← hV]; exact cell_block 1 _ rfl
        have v2 : V.drew.cell? ⟨wr.heap.size, 2, none⟩ = some (.string x.tail) := by rw [← hV]; exact cell_block 2 _ rfl
        have hnw : w.heap.size < wr.heap.size := lt_of_block gr
        have vs : V.drew.cell? ⟨w.heap.size, 0, none⟩ = some (.slice (some ⟨b, off, none⟩) l.length ce) := (hbv.cell (p := ⟨w.heap.size, 0, none⟩) hnw).trans c0
        have HBV := Lib.hid (show Below W.heap.size W V.drew from (HBr.out.trans (hbv.mono HBr.out.size)).drew)
        have HNM := Lib.hid (namedD_any x.name V.drew)
        have HLT := Lib.hid (show wr.heap.size < V.drew.heap.size by show _ < V.heap.size; rw [← hV]; simp)
        have HLT2 := Lib.hid (Nat.lt_trans hnw HLT.out)
        have HLT3 := Lib.hid (show b < V.drew.heap.size from Nat.lt_of_lt_of_le hblt HBV.out.size)
        have HLTE := Lib.hid hlt
        have HOKD := Lib.hid (show filOk l k = (namedD x.name && ((decide (k = 0) || Op.bytesLess (l.getD (k - 1) zeroFil).name.toList x.name.toList) && decide (x.safe.size + x.tail.size ≤ 1048576))) by rw [hx]; rfl)
        clear hx hcell
        rcases Nat.eq_zero_or_pos k with hk00 | hk00
        · subst hk00
          simp only [Nat.zero_mul, Nat.add_zero] at d0 d1 d2
          have z1 : (0 : Int) < (l.length : Int) := by omega
          have z2 : decide ((0 : Int) < (l.length : Int)) = true := decide_eq_true z1
          have z3 : 0 < l.length := hlt
          have z4 : decide (0 < l.length) = true := decide_eq_true hlt
          go_wp2_with fail
          refine Lone.wp_region_order [(0, false), (1, false), (2, true), (3, false), (4, false), (5, false), (6, false), (7, false), (8, false), (9, false), (10, false), (11, false), (12, false), (13, false), (14, false), (15, false), (16, false), (17, false), (18, false), (19, false), (20, false), (21, false), (22, false), (23, false), (24, false), (25, false), (26, false), (27, false), (28, false), (29, false), (30, false), (31, false), (32, false), (33, false), (34, false), (35, false)] (fun w' => w'.cell? ⟨wr.heap.size, 0, none⟩ = some (.string x.name) ∧ w'.cell? ⟨wr.heap.size, 1, none⟩ = some (.string x.safe) ∧ w'.cell? ⟨wr.heap.size, 2, none⟩ = some (.string x.tail) ∧ w'.cell? ⟨w.heap.size, 0, none⟩ = some (.slice (some ⟨b, off, none⟩) l.length ce)) (by kernel_rfl) (by kernel_rfl) rfl (by kernel_rfl) (by intro _ _ d _ _ h; cases d <;> exact h) (⟨v0, v1, v2, vs⟩) ?_; simp only [List.map_cons, List.map_nil, List.getElem?_toArray, List.getElem?_cons_zero, List.getElem?_cons_succ, Option.getD_some]
          repeat (first | (refine Lone.ro_q (by rfl) (v := ?_) ?_ ?_; rotate_left; (focus (intro w' hSw; (try dsimp only at hSw); go_simp; try with_reducible rfl)); simp only [Act.put, List.setIfInBounds_toArray, List.set_cons_zero, List.set_cons_succ]) | (refine Lone.ro_skip (by rfl) ?_; simp only [Act.put, List.setIfInBounds_toArray, List.set_cons_zero, List.set_cons_succ]))
          (refine Lone.ro_loud (by rfl) (fun K hK => ?_); go_simp)
          (with_reducible refine HNM.out.mono ?_)
          rintro e w4 ⟨rfl, hb4⟩
          have HB4 := Lib.hid (HBV.out.trans (hb4.mono HBV.out.size))
          have q0 := (hb4.cell (p := ⟨wr.heap.size, 0, none⟩) HLT.out).trans v0
          have q1 := (hb4.cell (p := ⟨wr.heap.size, 1, none⟩) HLT.out).trans v1
          have q2 := (hb4.cell (p := ⟨wr.heap.size, 2, none⟩) HLT.out).trans v2
          have qs := (hb4.cell (p := ⟨w.heap.size, 0, none⟩) HLT2.out).trans vs
          clear hb4
          (refine hK.out _ _ (fun w' => w'.cell? ⟨wr.heap.size, 0, none⟩ = some (.string x.name) ∧ w'.cell? ⟨wr.heap.size, 1, none⟩ = some (.string x.safe) ∧ w'.cell? ⟨wr.heap.size, 2, none⟩ = some (.string x.tail) ∧ w'.cell? ⟨w.heap.size, 0, none⟩ = some (.slice (some ⟨b, off, none⟩) l.length ce)) (.inl fun _ h => h) (⟨q0, q1, q2, qs⟩) ?_; clear hK K; try simp only [Act.put, List.setIfInBounds_toArray, List.set_cons_zero, List.set_cons_succ])
          obtain ⟨nb, hnb⟩ : ∃ nb, nb = namedD x.name := ⟨_, rfl⟩
          rw [← hnb] at HOKD ⊢
          clear hnb
          cases nb with
          | false =>
            have HOK := Lib.hid (show filOk l (0) = false by rw [HOKD.out]; rfl)
            have hF := HF.out.trans (goodB_bad HLEN.out HLTE.out HOK.out)
            subst hF
            repeat (first | (refine Lone.ro_q (by rfl) (v := ?_) ?_ ?_; rotate_left; (focus (intro w' hSw; (try dsimp only at hSw); go_simp; try with_reducible rfl)); simp only [Act.put, List.setIfInBounds_toArray, List.set_cons_zero, List.set_cons_succ]) | (refine Lone.ro_skip (by rfl) ?_; simp only [Act.put, List.setIfInBounds_toArray, List.set_cons_zero, List.set_cons_succ]))
            (refine Lone.ro_nil ?_; go_wp2_with fail)
            go_ret
            exact ⟨rfl, HW0.out.trans (HB4.out.mono HW0.out.size)⟩
          | true =>
            have hz : decide ((0 : Int) < (0 : Int)) = false := by simp
            by_cases hs : 1048576 < x.safe.size
            · have s1 : decide ((1048576 : Int) < (x.safe.size : Int)) = true := decide_eq_true (by omega)
              have s1n : decide (1048576 < x.safe.size) = true := decide_eq_true hs
              have HOK := Lib.hid (show filOk l (0) = false by rw [HOKD.out]; rw [decide_eq_false (show ¬ x.safe.size + x.tail.size ≤ 1048576 by omega)]; simp)
              have hF := HF.out.trans (goodB_bad HLEN.out HLTE.out HOK.out)
              subst hF
              clear hs
              repeat (first | (refine Lone.ro_q (by rfl) (v := ?_) ?_ ?_; rotate_left; (focus (intro w' hSw; (try dsimp only at hSw); go_simp; try with_reducible rfl)); simp only [Act.put, List.setIfInBounds_toArray, List.set_cons_zero, List.set_cons_succ]) | (refine Lone.ro_skip (by rfl) ?_; simp only [Act.put, List.setIfInBounds_toArray, List.set_cons_zero, List.set_cons_succ]))
              (refine Lone.ro_nil ?_; go_wp2_with fail)
              go_ret
              exact ⟨rfl, HW0.out.trans (HB4.out.mono HW0.out.size)⟩
            · have s1 : decide ((1048576 : Int) < (x.safe.size : Int)) = false := decide_eq_false (by omega)
              have s1n : decide (1048576 < x.safe.size) = false := decide_eq_false hs
              have sw : IntKind.i64.wrap (1048576 - (x.safe.size : Int)) = 1048576 - (x.safe.size : Int) := by rw [IntKind.wrap_i64]; omega
              by_cases ht : 1048576 < x.safe.size + x.tail.size
              · have s2 : decide (1048576 - (x.safe.size : Int) < (x.tail.size : Int)) = true := decide_eq_true (by omega)
                have HOK := Lib.hid (show filOk l (0) = false by rw [HOKD.out]; rw [decide_eq_false (show ¬ x.safe.size + x.tail.size ≤ 1048576 by omega)]; simp)
                have hF := HF.out.trans (goodB_bad HLEN.out HLTE.out HOK.out)
                subst hF
                clear hs ht
                repeat (first | (refine Lone.ro_q (by rfl) (v := ?_) ?_ ?_; rotate_left; (focus (intro w' hSw; (try dsimp only at hSw); go_simp; try with_reducible rfl)); simp only [Act.put, List.setIfInBounds_toArray, List.set_cons_zero, List.set_cons_succ]) | (refine Lone.ro_skip (by rfl) ?_; simp only [Act.put, List.setIfInBounds_toArray, List.set_cons_zero, List.set_cons_succ]))
                (refine Lone.ro_nil ?_; go_wp2_with fail)
                go_ret
                exact ⟨rfl, HW0.out.trans (HB4.out.mono HW0.out.size)⟩
              · have s2 : decide (1048576 - (x.safe.size : Int) < (x.tail.size : Int)) = false := decide_eq_false (by omega)
                have HOK := Lib.hid (show filOk l (0) = true by rw [HOKD.out]; rw [decide_eq_true (show x.safe.size + x.tail.size ≤ 1048576 by omega)]; simp)
                clear hs ht
                repeat (first | (refine Lone.ro_q (by rfl) (v := ?_) ?_ ?_; rotate_left; (focus (intro w' hSw; (try dsimp only at hSw); go_simp; try with_reducible rfl)); simp only [Act.put, List.setIfInBounds_toArray, List.set_cons_zero, List.set_cons_succ]) | (refine Lone.ro_skip (by rfl) ?_; simp only [Act.put, List.setIfInBounds_toArray, List.set_cons_zero, List.set_cons_succ]))
                (refine Lone.ro_nil ?_; go_wp2_with fail)
                exact ⟨⟨0 + 1, by have := HLTE.out; omega, by first | rfl | go_num, fun j hj => by (by_cases hjk : j = 0; rw [hjk]; exact HOK.out; exact HALL.out j (by omega)), HB4.out⟩, by have := HLTE.out; simp [intOf]; omega⟩
        · obtain ⟨m, rfl⟩ : ∃ m, k = m + 1 := ⟨k - 1, by omega⟩
          obtain ⟨p, hp⟩ : ∃ p, p = l.getD m zeroFil := ⟨_, rfl⟩
          have vp := (HBV.out.cell (p := ⟨b, off + m * 3, none⟩) hblt).trans (HCE.out m (by omega)).1
          rw [← hp] at vp
          have HPP := Lib.hid hp
          have hmi : (m : Int) < (l.length : Int) := by omega
          have hm0 : (0 : Int) ≤ (m : Int) := by omega
          have hmn : m < l.length := by omega
          have hmw : IntKind.i64.wrap (m : Int) = (m : Int) := by rw [IntKind.wrap_i64]; omega
          have hpos : decide ((0 : Int) < ((m + 1 : Nat) : Int)) = true := decide_eq_true (by omega)
          rw [Nat.add_sub_cancel, ← hp] at HOKD
          clear hp
          go_wp2_with fail
          refine Lone.wp_region_order [(0, false), (1, false), (2, true), (3, false), (4, false), (5, false), (6, false), (7, false), (8, false), (9, false), (10, false), (11, false), (12, false), (13, false), (14, false), (15, false), (16, false), (17, false), (18, false), (19, false), (20, false), (21, false), (22, false), (23, false), (24, false), (25, false), (26, false), (27, false), (28, false), (29, false), (30, false), (31, false), (32, false), (33, false), (34, false), (35, false)] (fun w' => w'.cell? ⟨wr.heap.size, 0, none⟩ = some (.string x.name) ∧ w'.cell? ⟨wr.heap.size, 1, none⟩ = some (.string x.safe) ∧ w'.cell? ⟨wr.heap.size, 2, none⟩ = some (.string x.tail) ∧ w'.cell? ⟨w.heap.size, 0, none⟩ = some (.slice (some ⟨b, off, none⟩) l.length ce) ∧ w'.cell? ⟨b, off + m * 3, none⟩ = some (.string p.name)) (by kernel_rfl) (by kernel_rfl) rfl (by kernel_rfl) (by intro _ _ d _ _ h; cases d <;> exact h) (⟨v0, v1, v2, vs, vp⟩) ?_; simp only [List.map_cons, List.map_nil, List.getElem?_toArray, List.getElem?_cons_zero, List.getElem?_cons_succ, Option.getD_some]
          repeat (first | (refine Lone.ro_q (by rfl) (v := ?_) ?_ ?_; rotate_left; (focus (intro w' hSw; (try dsimp only at hSw); go_simp; try with_reducible rfl)); simp only [Act.put, List.setIfInBounds_toArray, List.set_cons_zero, List.set_cons_succ]) | (refine Lone.ro_skip (by rfl) ?_; simp only [Act.put, List.setIfInBounds_toArray, List.set_cons_zero, List.set_cons_succ]))
          (refine Lone.ro_loud (by rfl) (fun K hK => ?_); go_simp)
          (with_reducible refine HNM.out.mono ?_)
          rintro e w4 ⟨rfl, hb4⟩
          have HB4 := Lib.hid (HBV.out.trans (hb4.mono HBV.out.size))
          have q0 := (hb4.cell (p := ⟨wr.heap.size, 0, none⟩) HLT.out).trans v0
          have q1 := (hb4.cell (p := ⟨wr.heap.size, 1, none⟩) HLT.out).trans v1
          have q2 := (hb4.cell (p := ⟨wr.heap.size, 2, none⟩) HLT.out).trans v2
          have qs := (hb4.cell (p := ⟨w.heap.size, 0, none⟩) HLT2.out).trans vs
          have qp := (hb4.cell (p := ⟨b, off + m * 3, none⟩) HLT3.out).trans vp
          clear hb4
          (refine hK.out _ _ (fun w' => w'.cell? ⟨wr.heap.size, 0, none⟩ = some (.string x.name) ∧ w'.cell? ⟨wr.heap.size, 1, none⟩ = some (.string x.safe) ∧ w'.cell? ⟨wr.heap.size, 2, none⟩ = some (.string x.tail) ∧ w'.cell? ⟨w.heap.size, 0, none⟩ = some (.slice (some ⟨b, off, none⟩) l.length ce) ∧ w'.cell? ⟨b, off + m * 3, none⟩ = some (.string p.name)) (.inl fun _ h => h) (⟨q0, q1, q2, qs, qp⟩) ?_; clear hK K; try simp only [Act.put, List.setIfInBounds_toArray, List.set_cons_zero, List.set_cons_succ])
          obtain ⟨nb, hnb⟩ : ∃ nb, nb = namedD x.name := ⟨_, rfl⟩
          rw [← hnb] at HOKD ⊢
          clear hnb
          cases nb with
          | false =>
            have HOK := Lib.hid (show filOk l (m + 1) = false by rw [HOKD.out]; rfl)
            have hF := HF.out.trans (goodB_bad HLEN.out HLTE.out HOK.out)
            subst hF
            repeat (first | (refine Lone.ro_q (by rfl) (v := ?_) ?_ ?_; rotate_left; (focus (intro w' hSw; (try dsimp only at hSw); go_simp; try with_reducible rfl)); simp only [Act.put, List.setIfInBounds_toArray, List.set_cons_zero, List.set_cons_succ]) | (refine Lone.ro_skip (by rfl) ?_; simp only [Act.put, List.setIfInBounds_toArray, List.set_cons_zero, List.set_cons_succ]))
            (refine Lone.ro_nil ?_; go_wp2_with fail)
            go_ret
            exact ⟨rfl, HW0.out.trans (HB4.out.mono HW0.out.size)⟩
          | true =>
            cases hle : Op.bytesLess p.name.toList x.name.toList with
            | true =>
              by_cases hs : 1048576 < x.safe.size
              · have s1 : decide ((1048576 : Int) < (x.safe.size : Int)) = true := decide_eq_true (by omega)
                have s1n : decide (1048576 < x.safe.size) = true := decide_eq_true hs
                have HOK := Lib.hid (show filOk l (m + 1) = false by rw [HOKD.out]; rw [decide_eq_false (show ¬ x.safe.size + x.tail.size ≤ 1048576 by omega)]; simp)
                have hF := HF.out.trans (goodB_bad HLEN.out HLTE.out HOK.out)
                subst hF
                clear hs
                repeat (first | (refine Lone.ro_q (by rfl) (v := ?_) ?_ ?_; rotate_left; (focus (intro w' hSw; (try dsimp only at hSw); go_simp; try with_reducible rfl)); simp only [Act.put, List.setIfInBounds_toArray, List.set_cons_zero, List.set_cons_succ]) | (refine Lone.ro_skip (by rfl) ?_; simp only [Act.put, List.setIfInBounds_toArray, List.set_cons_zero, List.set_cons_succ]))
                (refine Lone.ro_nil ?_; go_wp2_with fail)
                go_ret
                exact ⟨rfl, HW0.out.trans (HB4.out.mono HW0.out.size)⟩
              · have s1 : decide ((1048576 : Int) < (x.safe.size : Int)) = false := decide_eq_false (by omega)
                have s1n : decide (1048576 < x.safe.size) = false := decide_eq_false hs
                have sw : IntKind.i64.wrap (1048576 - (x.safe.size : Int)) = 1048576 - (x.safe.size : Int) := by rw [IntKind.wrap_i64]; omega
                by_cases ht : 1048576 < x.safe.size + x.tail.size
                · have s2 : decide (1048576 - (x.safe.size : Int) < (x.tail.size : Int)) = true := decide_eq_true (by omega)
                  have HOK := Lib.hid (show filOk l (m + 1) = false by rw [HOKD.out]; rw [decide_eq_false (show ¬ x.safe.size + x.tail.size ≤ 1048576 by omega)]; simp)
                  have hF := HF.out.trans (goodB_bad HLEN.out HLTE.out HOK.out)
                  subst hF
                  clear hs ht
                  repeat (first | (refine Lone.ro_q (by rfl) (v := ?_) ?_ ?_; rotate_left; (focus (intro w' hSw; (try dsimp only at hSw); go_simp; try with_reducible rfl)); simp only [Act.put, List.setIfInBounds_toArray, List.set_cons_zero, List.set_cons_succ]) | (refine Lone.ro_skip (by rfl) ?_; simp only [Act.put, List.setIfInBounds_toArray, List.set_cons_zero, List.set_cons_succ]))
                  (refine Lone.ro_nil ?_; go_wp2_with fail)
                  go_ret
                  exact ⟨rfl, HW0.out.trans (HB4.out.mono HW0.out.size)⟩
                · have s2 : decide (1048576 - (x.safe.size : Int) < (x.tail.size : Int)) = false := decide_eq_false (by omega)
                  have HOK := Lib.hid (show filOk l (m + 1) = true by rw [HOKD.out]; rw [decide_eq_true (show x.safe.size + x.tail.size ≤ 1048576 by omega), hle]; simp)
                  clear hs ht
                  repeat (first | (refine Lone.ro_q (by rfl) (v := ?_) ?_ ?_; rotate_left; (focus (intro w' hSw; (try dsimp only at hSw); go_simp; try with_reducible rfl)); simp only [Act.put, List.setIfInBounds_toArray, List.set_cons_zero, List.set_cons_succ]) | (refine Lone.ro_skip (by rfl) ?_; simp only [Act.put, List.setIfInBounds_toArray, List.set_cons_zero, List.set_cons_succ]))
                  (refine Lone.ro_nil ?_; go_wp2_with fail)
                  exact ⟨⟨(m + 1) + 1, by have := HLTE.out; omega, by first | rfl | go_num, fun j hj => by (by_cases hjk : j = m + 1; rw [hjk]; exact HOK.out; exact HALL.out j (by omega)), HB4.out⟩, by have := HLTE.out; simp [intOf]; omega⟩
            | false =>
              have HOK := Lib.hid (show filOk l (m + 1) = false by rw [HOKD.out]; rw [hle]; simp)
              have hF := HF.out.trans (goodB_bad HLEN.out HLTE.out HOK.out)
              subst hF
              repeat (first | (refine Lone.ro_q (by rfl) (v := ?_) ?_ ?_; rotate_left; (focus (intro w' hSw; (try dsimp only at hSw); go_simp; try with_reducible rfl)); simp only [Act.put, List.setIfInBounds_toArray, List.set_cons_zero, List.set_cons_succ]) | (refine Lone.ro_skip (by rfl) ?_; simp only [Act.put, List.setIfInBounds_toArray, List.set_cons_zero, List.set_cons_succ]))
              (refine Lone.ro_nil ?_; go_wp2_with fail)
              go_ret
              exact ⟨rfl, HW0.out.trans (HB4.out.mono HW0.out.size)⟩
      · have hF := HF.out.trans (goodB_good HLEN.out (fun j hj => HALL.out j (by omega)))
        subst hF
        have hkn : k = l.length := by omega
        subst hkn
        have hkb : decide ((l.length : Int) < (l.length : Int)) = false := by simp
        clear hlt hk HALL
        go_wp2_with fail
        go_ret
        exact ⟨rfl, HW0.out.trans (HBr.out.mono HW0.out.size)⟩
end Go.Proofs.Ytnggcldpojebkaa
