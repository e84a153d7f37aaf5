/- Texts put together: Disk1 Disk2 Disk3 Disk4 Disk5. -/
import Derived.Test.YtmacceamebdelaaDoorNam
import Derived.Test.YtmacceamebdelaaDoorBas
import Derived.Test.YtmacceamebdelaaDoorRef
import Derived.Test.YtmacceamebdelaaDoorRegion3
import Derived.OwnWalk
import Derived.Lib.SliceRun
/-! Disk1 -/
namespace Go.Proofs.YtmacceamebdelaaDoor
open Go.RowKit
set_option linter.unusedVariables false
set_option linter.unusedSimpArgs false

def badN (c : Nat) : Bool := (decide (c < 97) || decide (122 < c)) && ((decide (c < 48) || decide (57 < c)) && (decide (c ≠ 46) && decide (c ≠ 45)))
def namedD (s : ByteArray) : Bool := decide (s ≠ nilB) && (decide (s.size ≤ 80) && !hasP badN s)
theorem namedN_pays (w : World) : PredAt Tryd.prog 48 #[] encR badN w := fun W r _ => by
  unfold FnGives
  by_cases h1 : r < 97 <;> by_cases h2 : 122 < r <;> by_cases h3 : r < 48 <;> by_cases h4 : 57 < r <;> by_cases h5 : r = 46 <;> by_cases h6 : r = 45
  all_goals first | (exfalso; omega) | skip
  all_goals
    have z1 : (r : Int) < 97 ↔ r < 97 := by omega
    have z2 : (122 : Int) < (r : Int) ↔ 122 < r := by omega
    have z3 : (r : Int) < 48 ↔ r < 48 := by omega
    have z4 : (57 : Int) < (r : Int) ↔ 57 < r := by omega
    have z5 : (r : Int) = 46 ↔ r = 46 := by omega
    have z6 : (r : Int) = 45 ↔ r = 45 := by omega
    go_enter Tryd.func48, Tryd.ntmps48
    go_wp2
    all_goals first | (exfalso; omega) | (go_ret; exact ⟨by simp [badN, h1, h2, h3, h4, h5, h6, z1, z2, z3, z4, z5, z6], 0, rfl⟩)
theorem isEmptyD (s : ByteArray) : s.toList.isEmpty = decide (s = nilB) := by
  rw [Bool.eq_iff_iff, decide_eq_true_eq, List.isEmpty_iff]
  constructor
  · intro h; exact toList_inj (h.trans (by rw [ByteArray.toList_eq]; rfl))
  · intro h; rw [h, ByteArray.toList_eq]; rfl
set_option maxRecDepth 100000 in
set_option maxHeartbeats 3200000 in
theorem namedD_any (s : ByteArray) (w : World) : Calls Tryd.prog 28 #[.string s] w fun e w' => e = .returned (.bool (namedD s)) ∧ Below w.heap.size w w' := by
  have HC := Lib.hid (contains_any 48 (enters_of Tryd.func48 (by kernel_rfl) rfl) badN s w (namedN_pays w))
  obtain ⟨r, hr⟩ : ∃ r, r = namedD s := ⟨_, rfl⟩
  rw [← hr]
  unfold namedD at hr
  obtain ⟨b, hb⟩ : ∃ b, b = hasP badN s := ⟨_, rfl⟩
  rw [← hb] at HC hr
  clear hb
  by_cases h1 : s = nilB
  · have hE : s.toList.isEmpty = true := by rw [isEmptyD]; exact decide_eq_true h1
    obtain rfl : r = false := by rw [hr]; simp [h1]
    clear hr h1
    go_enter Tryd.func28, Tryd.ntmps28
    go_wp2_with fail
    go_ret
    exact ⟨rfl, Below.refl _ _⟩
  · have hE : s.toList.isEmpty = false := by rw [isEmptyD]; exact decide_eq_false h1
    by_cases h2 : s.size ≤ 80
    · have h2i : (s.size : Int) ≤ 80 := by omega
      have h2b : decide ((s.size : Int) ≤ 80) = true := decide_eq_true h2i
      have h2n : decide (s.size ≤ 80) = true := decide_eq_true h2
      rw [h2n, decide_eq_true h1] at hr
      obtain rfl : r = !b := by rw [hr]; rfl
      clear hr h1 h2
      go_enter Tryd.func28, Tryd.ntmps28
      go_wp2_with fail
      (with_reducible refine HC.out.mono ?_)
      rintro e w1 ⟨rfl, hb⟩
      have HB := Lib.hid hb
      clear hb HC
      go_wp2_with fail
      go_ret
      exact ⟨rfl, HB.out⟩
    · have h2i : ¬ (s.size : Int) ≤ 80 := by omega
      have h2b : decide ((s.size : Int) ≤ 80) = false := decide_eq_false h2i
      have h2n : decide (s.size ≤ 80) = false := decide_eq_false h2
      obtain rfl : r = false := by rw [hr, h2n]; simp
      clear hr h1 h2
      go_enter Tryd.func28, Tryd.ntmps28
      go_wp2_with fail
      go_ret
      exact ⟨rfl, Below.refl _ _⟩

/-! Slices of files. -/
def zeroFil : Fil := ⟨nilB, nilB, nilB⟩
def fvs (l : List Fil) : List Value := l.flatMap fun x => [.string x.name, .string x.safe, .string x.tail]
theorem fvs_length (l : List Fil) : (fvs l).length = l.length * 3 := by induction l with
  | nil => rfl
  | cons x l ih => rw [fvs, List.flatMap_cons, List.length_append, ← fvs, ih]; simp; omega
theorem fvs_append (a b : List Fil) : fvs (a ++ b) = fvs a ++ fvs b := by simp [fvs]
theorem fvs_take (l : List Fil) : ∀ k, (fvs l).take (k * 3) = fvs (l.take k) := by
  induction l with
  | nil => intro k; simp [fvs]
  | cons x l ih =>
    intro k
    cases k with
    | zero => simp [fvs]
    | succ k =>
      rw [show (k + 1) * 3 = k * 3 + 1 + 1 + 1 by omega]
      show Value.string x.name :: Value.string x.safe :: Value.string x.tail :: (fvs l).take (k * 3) = _
      rw [ih k]; rfl
theorem fvs_drop (l : List Fil) : ∀ k, (fvs l).drop (k * 3) = fvs (l.drop k) := by
  induction l with
  | nil => intro k; simp [fvs]
  | cons x l ih =>
    intro k
    cases k with
    | zero => simp [fvs]
    | succ k =>
      rw [show (k + 1) * 3 = k * 3 + 1 + 1 + 1 by omega]
      exact ih k
theorem fvs_one (l : List Fil) : ∀ y ∈ fvs l, y.oneCell' = true := by
  intro y hy
  obtain ⟨x, _, hx⟩ := List.mem_flatMap.1 hy
  simp at hx
  rcases hx with rfl | rfl | rfl <;> rfl
def rdF (w : World) (v : Value) (l : List Fil) : Prop := rdRow w 3 v l.length (fvs l)
theorem rdF.below {w w' : World} {v : Value} {l : List Fil} (h : rdF w v l) (hb : Below w.heap.size w w') : rdF w' v l := rdRow.below h hb
theorem rdF_nil (w : World) : rdF w (.slice none 0 0) [] := ⟨rfl, none, 0, rfl, Nat.le_refl _, by decide, fun _ => rfl, fun _ h => by cases h⟩
theorem rdF_len {w : World} {v : Value} {l : List Fil} (hr : rdF w v l) : l.length ≤ 9223372036854775807 := by
  obtain ⟨_, ao, cap, rfl, h1, h2, _⟩ := hr
  unfold maxLen at h2; omega
theorem rdF_owns {w : World} {B : Nat} {v : Value} {l : List Fil} (h : w.ownsRow B 92 3 v l.length (fvs l)) : rdF w v l := rdRow_of_owns h
theorem fvs_get (l : List Fil) (k : Nat) (h : k < l.length) : (fvs l)[k * 3]? = some (.string (l.getD k zeroFil).name) ∧ (fvs l)[k * 3 + 1]? = some (.string (l.getD k zeroFil).safe) ∧ (fvs l)[k * 3 + 2]? = some (.string (l.getD k zeroFil).tail) := by
  induction l generalizing k with
  | nil => cases h
  | cons x l ih =>
    cases k with
    | zero => exact ⟨rfl, rfl, rfl⟩
    | succ k =>
      have := ih k (by simpa using h)
      rw [show (k + 1) * 3 = k * 3 + 3 by omega]
      exact this
theorem rdF_at {w : World} {ao : Option Addr} {n cap : Nat} {l : List Fil} (hr : rdRow w 3 (.slice ao n cap) l.length (fvs l)) (h : 0 < l.length) :
    ∃ b off, ao = some ⟨b, off, none⟩ ∧ b < w.heap.size ∧ ∀ k, k < l.length → w.cell? ⟨b, off + k * 3, none⟩ = some (.string (l.getD k zeroFil).name) ∧ w.cell? ⟨b, off + k * 3 + 1, none⟩ = some (.string (l.getD k zeroFil).safe) ∧ w.cell? ⟨b, off + k * 3 + 2, none⟩ = some (.string (l.getD k zeroFil).tail) := by
  obtain ⟨b, off, cap', hv, hc0, hb⟩ := rd_cell hr 0 _ (by have := (fvs_get l 0 h).1; simpa using this)
  injection hv with h1 h2 h3
  subst h1
  refine ⟨b, off, rfl, hb, fun k hk => ?_⟩
  obtain ⟨_, ao2, cap2, hv2, _, _, _, hc⟩ := hr
  injection hv2 with g1 g2 g3
  subst g1
  obtain ⟨e0, e1, e2⟩ := fvs_get l k hk
  have c0 := hc _ rfl _ _ e0
  have c1 := hc _ rfl _ _ e1
  have c2 := hc _ rfl _ _ e2
  rw [add_none rfl] at c0 c1 c2
  exact ⟨c0, by rw [Nat.add_assoc]; exact c1, by rw [Nat.add_assoc]; exact c2⟩

/-! Good. -/
def filOk (l : List Fil) (k : Nat) : Bool := namedD (l.getD k zeroFil).name && ((decide (k = 0) || Op.bytesLess (l.getD (k - 1) zeroFil).name.toList (l.getD k zeroFil).name.toList) && decide ((l.getD k zeroFil).safe.size + (l.getD k zeroFil).tail.size ≤ 1048576))
open Classical in
noncomputable def goodBD (l : List Fil) : Bool := decide (GoodL namedD l)
theorem srt_of_adj : ∀ l : List Fil, (∀ k, 0 < k → k < l.length → lt (l.getD (k - 1) zeroFil).name (l.getD k zeroFil).name) → FSrt l
  | [], _ => List.Pairwise.nil
  | x :: l, h => by
    have ih := srt_of_adj l (fun k hk hl => by
      have := h (k + 1) (by omega) (by simpa using hl)
      obtain ⟨j, rfl⟩ : ∃ j, k = j + 1 := ⟨k - 1, by omega⟩
      simpa using this)
    refine List.pairwise_cons.2 ⟨fun y hy => ?_, ih⟩
    cases l with
    | nil => cases hy
    | cons z l =>
      have h1 : lt x.name z.name := by simpa using h 1 (by omega) (by simp)
      rcases List.mem_cons.1 hy with rfl | hy
      · exact h1
      · exact lt_trans h1 ((List.pairwise_cons.1 ih).1 y hy)
theorem adj_of_srt {l : List Fil} (h : FSrt l) {k : Nat} (hk : 0 < k) (hl : k < l.length) : lt (l.getD (k - 1) zeroFil).name (l.getD k zeroFil).name := by
  have := List.pairwise_iff_getElem.1 h (k - 1) k (by omega) hl (by omega)
  rw [List.getD, List.getD, List.getElem?_eq_getElem hl, List.getElem?_eq_getElem (show k - 1 < l.length by omega)]
  exact this
theorem goodB_false {l : List Fil} (h : ¬ GoodL namedD l) : goodBD l = false := by
  classical
  unfold goodBD
  exact decide_eq_false h
theorem goodB_true {l : List Fil} (h : GoodL namedD l) : goodBD l = true := by
  classical
  unfold goodBD
  exact decide_eq_true h
theorem goodB_bad {l : List Fil} (hl : l.length ≤ 400) {k : Nat} (hk : k < l.length) (h : filOk l k = false) : goodBD l = false := by
  refine goodB_false fun g => ?_
  have hm : l.getD k zeroFil ∈ l := by rw [List.getD, List.getElem?_eq_getElem hk]; exact List.getElem_mem hk
  have h1 := g.name _ hm
  have h2 := g.size _ hm
  unfold filOk at h
  rw [h1, decide_eq_true h2] at h
  rcases Nat.eq_zero_or_pos k with rfl | hp
  · simp at h
  · have := adj_of_srt g.srt hp hk
    unfold lt at this
    rw [this] at h
    simp at h
theorem goodB_good {l : List Fil} (hl : l.length ≤ 400) (h : ∀ j, j < l.length → filOk l j = true) : goodBD l = true := by
  refine goodB_true ?_
  have key : ∀ x ∈ l, namedD x.name = true ∧ x.safe.size + x.tail.size ≤ 1048576 := fun x hx => by
    obtain ⟨j, hj, rfl⟩ := List.mem_iff_getElem.1 hx
    have := h j hj
    unfold filOk at this
    rw [List.getD, List.getElem?_eq_getElem hj] at this
    simp only [Option.getD_some, Bool.and_eq_true, decide_eq_true_eq] at this
    exact ⟨this.1, this.2.2⟩
  refine ⟨hl, srt_of_adj l (fun k hk hlt => ?_), fun x hx => (key x hx).1, fun x hx => (key x hx).2⟩
  have := h k hlt
  unfold filOk at this
  simp only [Bool.and_eq_true, Bool.or_eq_true, decide_eq_true_eq] at this
  exact this.2.1.resolve_left (by omega)
theorem goodB_long {l : List Fil} (hl : 400 < l.length) : goodBD l = false := by
  refine goodB_false fun g => ?_
  have := g.len; omega
theorem goodB_iff {l : List Fil} : goodBD l = true ↔ GoodL namedD l := ⟨fun h => Classical.byContradiction fun k => Bool.noConfusion ((goodB_false k).symm.trans h), goodB_true⟩
set_option maxRecDepth 100000 in
set_option maxHeartbeats 3200000 in
theorem goodD_any (l : List Fil) (v : Value) (fu : Int) (w : World) (hr : rdF w v l) :
    Calls Tryd.prog 27 #[.agg #[v, .int .i64 fu]] w fun e w' => e = .returned (.bool (goodBD l)) ∧ Below w.heap.size w w' := by
  obtain ⟨F, hF⟩ : ∃ F, F = goodBD l := ⟨_, rfl⟩
  rw [← hF]
  have HF := Lib.hid hF
  have hlen := rdF_len hr
  obtain ⟨ae, ce, rfl⟩ := rd_form hr
  have g0 : (w.alloc (.cells #[.slice ae l.length ce, .int .i64 fu] 26)).heap[w.heap.size]? = some (.cells #[.slice ae l.length ce, .int .i64 fu] 26 (0, 0)) := heap_alloc_new _ _
  have hb1 : Below w.heap.size w (w.alloc (.cells #[.slice ae l.length ce, .int .i64 fu] 26)) := (Below.refl _ _).alloc (Nat.le_refl _) _
  have HE := Lib.hid (hr.below hb1)
  have HW0 := Lib.hid hb1
  obtain ⟨W, hW⟩ : ∃ W, w.alloc (.cells #[.slice ae l.length ce, .int .i64 fu] 26) = W := ⟨_, rfl⟩
  rw [hW] at g0 HE HW0
  have HG := Lib.hid (fun wr (h : Below W.heap.size W wr) => blk_below g0 h)
  have c0 := (cell_of_two g0).1
  have HB1 := Lib.hid (Below.refl W.heap.size W)
  clear hF hr hb1
  by_cases h4 : 400 < l.length
  · have hF := HF.out.trans (goodB_long h4)
    subst hF
    have f4 : decide ((400 : Int) < (l.length : Int)) = true := decide_eq_true (by omega)
    have f4n : decide (400 < l.length) = true := decide_eq_true h4
    clear h4
    go_enter Tryd.func27, Tryd.ntmps27
    go_wp2_with fail
    go_ret
    exact ⟨rfl, HW0.out.trans (HB1.out.mono HW0.out.size)⟩
  · have f4 : decide ((400 : Int) < (l.length : Int)) = false := decide_eq_false (by omega)
    have f4n : decide (400 < l.length) = false := decide_eq_false h4
    have hlen4 : l.length ≤ 400 := by omega
    have HLEN := Lib.hid hlen4
    clear h4 hlen
    go_enter Tryd.func27, Tryd.ntmps27
    go_wp2_with fail
    go_loopw [12] (fun i wr => ∃ k : Nat, k ≤ l.length ∧ i = .int .i64 (k : Int) ∧ (∀ j, j < k → filOk l j = true) ∧ Below W.heap.size W wr) (fun i _ => l.length - (intOf i).toNat)
    case atStart => exact ⟨0, Nat.zero_le _, rfl, fun j hj => absurd hj (Nat.not_lt_zero _), HB1.out⟩
    case round =>
      clear c0
      obtain ⟨k, hk, rfl, hall, hB⟩ := hrel
      have HALL := Lib.hid hall
      have HBr := Lib.hid hB
      have gr := HG.out _ hB
      have c0 := (cell_of_two gr).1
      clear hall hB
      by_cases hlt : k < l.length
      · have hki : (k : Int) < (l.length : Int) := by omega
        have hkb : decide ((k : Int) < (l.length : Int)) = true := decide_eq_true hki
        have hkn : decide (k < l.length) = true := decide_eq_true hlt
        have hk0 : (0 : Int) ≤ (k : Int) := by omega
        obtain ⟨b, off, hae, hblt, hcell⟩ := rdF_at HE.out (by omega)
        obtain ⟨x, hx⟩ : ∃ x, x = l.getD k zeroFil := ⟨_, rfl⟩
        obtain ⟨d0, d1, d2⟩ := hcell k hlt
        rw [← hx] at d0 d1 d2
        rw [← HBr.out.cell (p := ⟨b, off + k * 3, none⟩) hblt] at d0
        rw [← HBr.out.cell (p := ⟨b, off + k * 3 + 1, none⟩) hblt] at d1
        rw [← HBr.out.cell (p := ⟨b, off + k * 3 + 2, none⟩) hblt] at d2
        have HX := Lib.hid hx
        have HCE := Lib.hid hcell
        subst hae
        obtain ⟨V, hV⟩ : ∃ V, wr.alloc (.cells #[.string x.name, .string x.safe, .string x.tail] 92) = V := ⟨_, rfl⟩
        have hbv : Below wr.heap.size wr V := by rw [← hV]; exact (Below.refl _ _).alloc (Nat.le_refl _) _
        have v0 : V.drew.cell? ⟨wr.heap.size, 0, none⟩ = some (.string x.name) := by rw [← hV]; exact cell_block 0 _ rfl
        have v1 : V.drew.cell? ⟨wr.heap.size, 1, none⟩ = some (.string x.safe) := by rw [← hV]; exact cell_block 1 _ rfl
        have v2 : V.drew.cell? ⟨wr.heap.size, 2, none⟩ = some (.string x.tail) := by rw [← hV]; exact cell_block 2 _ rfl
        have hnw : w.heap.size < wr.heap.size := lt_of_block gr
        have vs : V.drew.cell? ⟨w.heap.size, 0, none⟩ = some (.slice (some ⟨b, off, none⟩) l.length ce) := (hbv.cell (p := ⟨w.heap.size, 0, none⟩) hnw).trans c0
        have HBV := Lib.hid (show Below W.heap.size W V.drew from (HBr.out.trans (hbv.mono HBr.out.size)).drew)
        have HNM := Lib.hid (namedD_any x.name V.drew)
        have HLT := Lib.hid (show wr.heap.size < V.drew.heap.size by show _ < V.heap.size; rw [← hV]; simp)
        have HLT2 := Lib.hid (Nat.lt_trans hnw HLT.out)
        have HLT3 := Lib.hid (show b < V.drew.heap.size from Nat.lt_of_lt_of_le hblt HBV.out.size)
        have HLTE := Lib.hid hlt
        have HOKD := Lib.hid (show filOk l k = (namedD x.name && ((decide (k = 0) || Op.bytesLess (l.getD (k - 1) zeroFil).name.toList x.name.toList) && decide (x.safe.size + x.tail.size ≤ 1048576))) by rw [hx]; rfl)
        clear hx hcell
        rcases Nat.eq_zero_or_pos k with hk00 | hk00
        · subst hk00
          simp only [Nat.zero_mul, Nat.add_zero] at d0 d1 d2
          have z1 : (0 : Int) < (l.length : Int) := by omega
          have z2 : decide ((0 : Int) < (l.length : Int)) = true := decide_eq_true z1
          have z3 : 0 < l.length := hlt
          have z4 : decide (0 < l.length) = true := decide_eq_true hlt
          go_wp2_with fail
          refine Lone.wp_region_order [(0, false), (1, false), (2, true), (3, false), (4, false), (5, false), (6, false), (7, false), (8, false), (9, false), (10, false), (11, false), (12, false), (13, false), (14, false), (15, false), (16, false), (17, false), (18, false), (19, false), (20, false), (21, false), (22, false), (23, false), (24, false), (25, false), (26, false), (27, false), (28, false), (29, false), (30, false), (31, false), (32, false), (33, false), (34, false), (35, false)] (fun w' => w'.cell? ⟨wr.heap.size, 0, none⟩ = some (.string x.name) ∧ w'.cell? ⟨wr.heap.size, 1, none⟩ = some (.string x.safe) ∧ w'.cell? ⟨wr.heap.size, 2, none⟩ = some (.string x.tail) ∧ w'.cell? ⟨w.heap.size, 0, none⟩ = some (.slice (some ⟨b, off, none⟩) l.length ce)) (by kernel_rfl) (by kernel_rfl) rfl (by kernel_rfl) (by intro _ _ d _ _ h; cases d <;> exact h) (⟨v0, v1, v2, vs⟩) ?_; simp only [List.map_cons, List.map_nil, List.getElem?_toArray, List.getElem?_cons_zero, List.getElem?_cons_succ, Option.getD_some]
          repeat (first | (refine Lone.ro_q (by rfl) (v := ?_) ?_ ?_; rotate_left; (focus (intro w' hSw; (try dsimp only at hSw); go_simp; try with_reducible rfl)); simp only [Act.put, List.setIfInBounds_toArray, List.set_cons_zero, List.set_cons_succ]) | (refine Lone.ro_skip (by rfl) ?_; simp only [Act.put, List.setIfInBounds_toArray, List.set_cons_zero, List.set_cons_succ]))
          (refine Lone.ro_loud (by rfl) (fun K hK => ?_); go_simp)
          (with_reducible refine HNM.out.mono ?_)
          rintro e w4 ⟨rfl, hb4⟩
          have HB4 := Lib.hid (HBV.out.trans (hb4.mono HBV.out.size))
          have q0 := (hb4.cell (p := ⟨wr.heap.size, 0, none⟩) HLT.out).trans v0
          have q1 := (hb4.cell (p := ⟨wr.heap.size, 1, none⟩) HLT.out).trans v1
          have q2 := (hb4.cell (p := ⟨wr.heap.size, 2, none⟩) HLT.out).trans v2
          have qs := (hb4.cell (p := ⟨w.heap.size, 0, none⟩) HLT2.out).trans vs
          clear hb4
          (refine hK.out _ _ (fun w' => w'.cell? ⟨wr.heap.size, 0, none⟩ = some (.string x.name) ∧ w'.cell? ⟨wr.heap.size, 1, none⟩ = some (.string x.safe) ∧ w'.cell? ⟨wr.heap.size, 2, none⟩ = some (.string x.tail) ∧ w'.cell? ⟨w.heap.size, 0, none⟩ = some (.slice (some ⟨b, off, none⟩) l.length ce)) (.inl fun _ h => h) (⟨q0, q1, q2, qs⟩) ?_; clear hK K; try simp only [Act.put, List.setIfInBounds_toArray, List.set_cons_zero, List.set_cons_succ])
          obtain ⟨nb, hnb⟩ : ∃ nb, nb = namedD x.name := ⟨_, rfl⟩
          rw [← hnb] at HOKD ⊢
          clear hnb
          cases nb with
          | false =>
            have HOK := Lib.hid (show filOk l (0) = false by rw [HOKD.out]; rfl)
            have hF := HF.out.trans (goodB_bad HLEN.out HLTE.out HOK.out)
            subst hF
            repeat (first | (refine Lone.ro_q (by rfl) (v := ?_) ?_ ?_; rotate_left; (focus (intro w' hSw; (try dsimp only at hSw); go_simp; try with_reducible rfl)); simp only [Act.put, List.setIfInBounds_toArray, List.set_cons_zero, List.set_cons_succ]) | (refine Lone.ro_skip (by rfl) ?_; simp only [Act.put, List.setIfInBounds_toArray, List.set_cons_zero, List.set_cons_succ]))
            (refine Lone.ro_nil ?_; go_wp2_with fail)
            go_ret
            exact ⟨rfl, HW0.out.trans (HB4.out.mono HW0.out.size)⟩
          | true =>
            have hz : decide ((0 : Int) < (0 : Int)) = false := by simp
            by_cases hs : 1048576 < x.safe.size
            · have s1 : decide ((1048576 : Int) < (x.safe.size : Int)) = true := decide_eq_true (by omega)
              have s1n : decide (1048576 < x.safe.size) = true := decide_eq_true hs
              have HOK := Lib.hid (show filOk l (0) = false by rw [HOKD.out]; rw [decide_eq_false (show ¬ x.safe.size + x.tail.size ≤ 1048576 by omega)]; simp)
              have hF := HF.out.trans (goodB_bad HLEN.out HLTE.out HOK.out)
              subst hF
              clear hs
              repeat (first | (refine Lone.ro_q (by rfl) (v := ?_) ?_ ?_; rotate_left; (focus (intro w' hSw; (try dsimp only at hSw); go_simp; try with_reducible rfl)); simp only [Act.put, List.setIfInBounds_toArray, List.set_cons_zero, List.set_cons_succ]) | (refine Lone.ro_skip (by rfl) ?_; simp only [Act.put, List.setIfInBounds_toArray, List.set_cons_zero, List.set_cons_succ]))
              (refine Lone.ro_nil ?_; go_wp2_with fail)
              go_ret
              exact ⟨rfl, HW0.out.trans (HB4.out.mono HW0.out.size)⟩
            · have s1 : decide ((1048576 : Int) < (x.safe.size : Int)) = false := decide_eq_false (by omega)
              have s1n : decide (1048576 < x.safe.size) = false := decide_eq_false hs
              have sw : IntKind.i64.wrap (1048576 - (x.safe.size : Int)) = 1048576 - (x.safe.size : Int) := by rw [IntKind.wrap_i64]; omega
              by_cases ht : 1048576 < x.safe.size + x.tail.size
              · have s2 : decide (1048576 - (x.safe.size : Int) < (x.tail.size : Int)) = true := decide_eq_true (by omega)
                have HOK := Lib.hid (show filOk l (0) = false by rw [HOKD.out]; rw [decide_eq_false (show ¬ x.safe.size + x.tail.size ≤ 1048576 by omega)]; simp)
                have hF := HF.out.trans (goodB_bad HLEN.out HLTE.out HOK.out)
                subst hF
                clear hs ht
                repeat (first | (refine Lone.ro_q (by rfl) (v := ?_) ?_ ?_; rotate_left; (focus (intro w' hSw; (try dsimp only at hSw); go_simp; try with_reducible rfl)); simp only [Act.put, List.setIfInBounds_toArray, List.set_cons_zero, List.set_cons_succ]) | (refine Lone.ro_skip (by rfl) ?_; simp only [Act.put, List.setIfInBounds_toArray, List.set_cons_zero, List.set_cons_succ]))
                (refine Lone.ro_nil ?_; go_wp2_with fail)
                go_ret
                exact ⟨rfl, HW0.out.trans (HB4.out.mono HW0.out.size)⟩
              · have s2 : decide (1048576 - (x.safe.size : Int) < (x.tail.size : Int)) = false := decide_eq_false (by omega)
                have HOK := Lib.hid (show filOk l (0) = true by rw [HOKD.out]; rw [decide_eq_true (show x.safe.size + x.tail.size ≤ 1048576 by omega)]; simp)
                clear hs ht
                repeat (first | (refine Lone.ro_q (by rfl) (v := ?_) ?_ ?_; rotate_left; (focus (intro w' hSw; (try dsimp only at hSw); go_simp; try with_reducible rfl)); simp only [Act.put, List.setIfInBounds_toArray, List.set_cons_zero, List.set_cons_succ]) | (refine Lone.ro_skip (by rfl) ?_; simp only [Act.put, List.setIfInBounds_toArray, List.set_cons_zero, List.set_cons_succ]))
                (refine Lone.ro_nil ?_; go_wp2_with fail)
                exact ⟨⟨0 + 1, by have := HLTE.out; omega, by first | rfl | go_num, fun j hj => by (by_cases hjk : j = 0; rw [hjk]; exact HOK.out; exact HALL.out j (by omega)), HB4.out⟩, by have := HLTE.out; simp [intOf]; omega⟩
        · obtain ⟨m, rfl⟩ : ∃ m, k = m + 1 := ⟨k - 1, by omega⟩
          obtain ⟨p, hp⟩ : ∃ p, p = l.getD m zeroFil := ⟨_, rfl⟩
          have vp := (HBV.out.cell (p := ⟨b, off + m * 3, none⟩) hblt).trans (HCE.out m (by omega)).1
          rw [← hp] at vp
          have HPP := Lib.hid hp
          have hmi : (m : Int) < (l.length : Int) := by omega
          have hm0 : (0 : Int) ≤ (m : Int) := by omega
          have hmn : m < l.length := by omega
          have hmw : IntKind.i64.wrap (m : Int) = (m : Int) := by rw [IntKind.wrap_i64]; omega
          have hpos : decide ((0 : Int) < ((m + 1 : Nat) : Int)) = true := decide_eq_true (by omega)
          rw [Nat.add_sub_cancel, ← hp] at HOKD
          clear hp
          go_wp2_with fail
          refine Lone.wp_region_order [(0, false), (1, false), (2, true), (3, false), (4, false), (5, false), (6, false), (7, false), (8, false), (9, false), (10, false), (11, false), (12, false), (13, false), (14, false), (15, false), (16, false), (17, false), (18, false), (19, false), (20, false), (21, false), (22, false), (23, false), (24, false), (25, false), (26, false), (27, false), (28, false), (29, false), (30, false), (31, false), (32, false), (33, false), (34, false), (35, false)] (fun w' => w'.cell? ⟨wr.heap.size, 0, none⟩ = some (.string x.name) ∧ w'.cell? ⟨wr.heap.size, 1, none⟩ = some (.string x.safe) ∧ w'.cell? ⟨wr.heap.size, 2, none⟩ = some (.string x.tail) ∧ w'.cell? ⟨w.heap.size, 0, none⟩ = some (.slice (some ⟨b, off, none⟩) l.length ce) ∧ w'.cell? ⟨b, off + m * 3, none⟩ = some (.string p.name)) (by kernel_rfl) (by kernel_rfl) rfl (by kernel_rfl) (by intro _ _ d _ _ h; cases d <;> exact h) (⟨v0, v1, v2, vs, vp⟩) ?_; simp only [List.map_cons, List.map_nil, List.getElem?_toArray, List.getElem?_cons_zero, List.getElem?_cons_succ, Option.getD_some]
          repeat (first | (refine Lone.ro_q (by rfl) (v := ?_) ?_ ?_; rotate_left; (focus (intro w' hSw; (try dsimp only at hSw); go_simp; try with_reducible rfl)); simp only [Act.put, List.setIfInBounds_toArray, List.set_cons_zero, List.set_cons_succ]) | (refine Lone.ro_skip (by rfl) ?_; simp only [Act.put, List.setIfInBounds_toArray, List.set_cons_zero, List.set_cons_succ]))
          (refine Lone.ro_loud (by rfl) (fun K hK => ?_); go_simp)
          (with_reducible refine HNM.out.mono ?_)
          rintro e w4 ⟨rfl, hb4⟩
          have HB4 := Lib.hid (HBV.out.trans (hb4.mono HBV.out.size))
          have q0 := (hb4.cell (p := ⟨wr.heap.size, 0, none⟩) HLT.out).trans v0
          have q1 := (hb4.cell (p := ⟨wr.heap.size, 1, none⟩) HLT.out).trans v1
          have q2 := (hb4.cell (p := ⟨wr.heap.size, 2, none⟩) HLT.out).trans v2
          have qs := (hb4.cell (p := ⟨w.heap.size, 0, none⟩) HLT2.out).trans vs
          have qp := (hb4.cell (p := ⟨b, off + m * 3, none⟩) HLT3.out).trans vp
          clear hb4
          (refine hK.out _ _ (fun w' => w'.cell? ⟨wr.heap.size, 0, none⟩ = some (.string x.name) ∧ w'.cell? ⟨wr.heap.size, 1, none⟩ = some (.string x.safe) ∧ w'.cell? ⟨wr.heap.size, 2, none⟩ = some (.string x.tail) ∧ w'.cell? ⟨w.heap.size, 0, none⟩ = some (.slice (some ⟨b, off, none⟩) l.length ce) ∧ w'.cell? ⟨b, off + m * 3, none⟩ = some (.string p.name)) (.inl fun _ h => h) (⟨q0, q1, q2, qs, qp⟩) ?_; clear hK K; try simp only [Act.put, List.setIfInBounds_toArray, List.set_cons_zero, List.set_cons_succ])
          obtain ⟨nb, hnb⟩ : ∃ nb, nb = namedD x.name := ⟨_, rfl⟩
          rw [← hnb] at HOKD ⊢
          clear hnb
          cases nb with
          | false =>
            have HOK := Lib.hid (show filOk l (m + 1) = false by rw [HOKD.out]; rfl)
            have hF := HF.out.trans (goodB_bad HLEN.out HLTE.out HOK.out)
            subst hF
            repeat (first | (refine Lone.ro_q (by rfl) (v := ?_) ?_ ?_; rotate_left; (focus (intro w' hSw; (try dsimp only at hSw); go_simp; try with_reducible rfl)); simp only [Act.put, List.setIfInBounds_toArray, List.set_cons_zero, List.set_cons_succ]) | (refine Lone.ro_skip (by rfl) ?_; simp only [Act.put, List.setIfInBounds_toArray, List.set_cons_zero, List.set_cons_succ]))
            (refine Lone.ro_nil ?_; go_wp2_with fail)
            go_ret
            exact ⟨rfl, HW0.out.trans (HB4.out.mono HW0.out.size)⟩
          | true =>
            cases hle : Op.bytesLess p.name.toList x.name.toList with
            | true =>
              by_cases hs : 1048576 < x.safe.size
              · have s1 : decide ((1048576 : Int) < (x.safe.size : Int)) = true := decide_eq_true (by omega)
                have s1n : decide (1048576 < x.safe.size) = true := decide_eq_true hs
                have HOK := Lib.hid (show filOk l (m + 1) = false by rw [HOKD.out]; rw [decide_eq_false (show ¬ x.safe.size + x.tail.size ≤ 1048576 by omega)]; simp)
                have hF := HF.out.trans (goodB_bad HLEN.out HLTE.out HOK.out)
                subst hF
                clear hs
                repeat (first | (refine Lone.ro_q (by rfl) (v := ?_) ?_ ?_; rotate_left; (focus (intro w' hSw; (try dsimp only at hSw); go_simp; try with_reducible rfl)); simp only [Act.put, List.setIfInBounds_toArray, List.set_cons_zero, List.set_cons_succ]) | (refine Lone.ro_skip (by rfl) ?_; simp only [Act.put, List.setIfInBounds_toArray, List.set_cons_zero, List.set_cons_succ]))
                (refine Lone.ro_nil ?_; go_wp2_with fail)
                go_ret
                exact ⟨rfl, HW0.out.trans (HB4.out.mono HW0.out.size)⟩
              · have s1 : decide ((1048576 : Int) < (x.safe.size : Int)) = false := decide_eq_false (by omega)
                have s1n : decide (1048576 < x.safe.size) = false := decide_eq_false hs
                have sw : IntKind.i64.wrap (1048576 - (x.safe.size : Int)) = 1048576 - (x.safe.size : Int) := by rw [IntKind.wrap_i64]; omega
                by_cases ht : 1048576 < x.safe.size + x.tail.size
                · have s2 : decide (1048576 - (x.safe.size : Int) < (x.tail.size : Int)) = true := decide_eq_true (by omega)
                  have HOK := Lib.hid (show filOk l (m + 1) = false by rw [HOKD.out]; rw [decide_eq_false (show ¬ x.safe.size + x.tail.size ≤ 1048576 by omega)]; simp)
                  have hF := HF.out.trans (goodB_bad HLEN.out HLTE.out HOK.out)
                  subst hF
                  clear hs ht
                  repeat (first | (refine Lone.ro_q (by rfl) (v := ?_) ?_ ?_; rotate_left; (focus (intro w' hSw; (try dsimp only at hSw); go_simp; try with_reducible rfl)); simp only [Act.put, List.setIfInBounds_toArray, List.set_cons_zero, List.set_cons_succ]) | (refine Lone.ro_skip (by rfl) ?_; simp only [Act.put, List.setIfInBounds_toArray, List.set_cons_zero, List.set_cons_succ]))
                  (refine Lone.ro_nil ?_; go_wp2_with fail)
                  go_ret
                  exact ⟨rfl, HW0.out.trans (HB4.out.mono HW0.out.size)⟩
                · have s2 : decide (1048576 - (x.safe.size : Int) < (x.tail.size : Int)) = false := decide_eq_false (by omega)
                  have HOK := Lib.hid (show filOk l (m + 1) = true by rw [HOKD.out]; rw [decide_eq_true (show x.safe.size + x.tail.size ≤ 1048576 by omega), hle]; simp)
                  clear hs ht
                  repeat (first | (refine Lone.ro_q (by rfl) (v := ?_) ?_ ?_; rotate_left; (focus (intro w' hSw; (try dsimp only at hSw); go_simp; try with_reducible rfl)); simp only [Act.put, List.setIfInBounds_toArray, List.set_cons_zero, List.set_cons_succ]) | (refine Lone.ro_skip (by rfl) ?_; simp only [Act.put, List.setIfInBounds_toArray, List.set_cons_zero, List.set_cons_succ]))
                  (refine Lone.ro_nil ?_; go_wp2_with fail)
                  exact ⟨⟨(m + 1) + 1, by have := HLTE.out; omega, by first | rfl | go_num, fun j hj => by (by_cases hjk : j = m + 1; rw [hjk]; exact HOK.out; exact HALL.out j (by omega)), HB4.out⟩, by have := HLTE.out; simp [intOf]; omega⟩
            | false =>
              have HOK := Lib.hid (show filOk l (m + 1) = false by rw [HOKD.out]; rw [hle]; simp)
              have hF := HF.out.trans (goodB_bad HLEN.out HLTE.out HOK.out)
              subst hF
              repeat (first | (refine Lone.ro_q (by rfl) (v := ?_) ?_ ?_; rotate_left; (focus (intro w' hSw; (try dsimp only at hSw); go_simp; try with_reducible rfl)); simp only [Act.put, List.setIfInBounds_toArray, List.set_cons_zero, List.set_cons_succ]) | (refine Lone.ro_skip (by rfl) ?_; simp only [Act.put, List.setIfInBounds_toArray, List.set_cons_zero, List.set_cons_succ]))
              (refine Lone.ro_nil ?_; go_wp2_with fail)
              go_ret
              exact ⟨rfl, HW0.out.trans (HB4.out.mono HW0.out.size)⟩
      · have hF := HF.out.trans (goodB_good HLEN.out (fun j hj => HALL.out j (by omega)))
        subst hF
        have hkn : k = l.length := by omega
        subst hkn
        have hkb : decide ((l.length : Int) < (l.length : Int)) = false := by simp
        clear hlt hk HALL
        go_wp2_with fail
        go_ret
        exact ⟨rfl, HW0.out.trans (HBr.out.mono HW0.out.size)⟩
end Go.Proofs.YtmacceamebdelaaDoor
/-! Disk2 -/
namespace Go.Proofs.YtmacceamebdelaaDoor
open Go.RowKit
set_option linter.unusedVariables false
set_option linter.unusedSimpArgs false

set_option maxRecDepth 100000 in
set_option maxHeartbeats 3200000 in
theorem findC_any (f : Fil) (n : ByteArray) (w : World) : Calls Tryd.prog 51 #[.agg #[.string f.name, .string f.safe, .string f.tail], .string n] w fun e w' => e = .returned (.int .i64 (cmpB f.name n)) ∧ Below w.heap.size w w' := by
  have HB := Lib.hid ((Below.refl w.heap.size w).alloc (Nat.le_refl _) (.cells #[.string f.name, .string f.safe, .string f.tail] 92))
  go_enter Tryd.func51, Tryd.ntmps51
  go_wp2_with fail
  (with_reducible refine (compare_any f.name n _).mono ?_)
  rintro e w' ⟨rfl, rfl⟩
  go_wp2_with fail
  go_ret
  exact ⟨rfl, HB.out⟩

theorem getD_mem {l : List Fil} {k : Nat} (h : k < l.length) : l.getD k zeroFil ∈ l := by rw [List.getD, List.getElem?_eq_getElem h]; exact List.getElem_mem h
theorem srt_lt {l : List Fil} (h : FSrt l) {i j : Nat} (hi : i < j) (hj : j < l.length) : lt (l.getD i zeroFil).name (l.getD j zeroFil).name := by
  have := List.pairwise_iff_getElem.1 h i j (by omega) hj hi
  rw [List.getD, List.getD, List.getElem?_eq_getElem hj, List.getElem?_eq_getElem (show i < l.length by omega)]
  exact this
theorem idx_bound {l : List Fil} {n : ByteArray} (hs : FSrt l) {i : Nat} (hi : i ≤ l.length) (h1 : ∀ t, t < i → lt (l.getD t zeroFil).name n) (h2 : i < l.length → ¬ lt (l.getD i zeroFil).name n) : fidx n l = i := by
  have e : l = l.take i ++ l.drop i := (List.take_append_drop i l).symm
  have hk : idxL Fil.name n (l.take i ++ l.drop i) = (l.take i).length := by
    refine idx_parted Fil.name (fun x hx => ?_) (fun x hx => ?_)
    · obtain ⟨j, hj, rfl⟩ := List.mem_iff_getElem.1 hx
      rw [List.length_take] at hj
      have := h1 j (by omega)
      rw [List.getD, List.getElem?_eq_getElem (show j < l.length by omega)] at this
      simpa using this
    · rw [List.head?_drop] at hx
      have hl := (List.getElem?_eq_some_iff.1 hx).1
      have := h2 hl
      rw [List.getD, hx] at this
      exact this
  rw [List.length_take, ← e] at hk
  show idxL Fil.name n l = i
  omega
theorem has_bound {l : List Fil} {n : ByteArray} (hs : FSrt l) {i : Nat} (hi : fidx n l = i) : (fget n l).isSome = decide (i < l.length ∧ (l.getD i zeroFil).name = n) := by
  cases hg : fget n l with
  | none =>
    symm
    rw [Option.isSome_none, decide_eq_false_iff_not]
    rintro ⟨h1, h2⟩
    exact getL_none Fil.name hg _ (getD_mem h1) h2
  | some f =>
    symm
    rw [Option.isSome_some, decide_eq_true_eq]
    have h := at_some Fil.name hs hg
    have hi' : idxL Fil.name n l = i := hi
    rw [hi'] at h
    refine ⟨h.1, ?_⟩
    rw [List.getD, h.2.1]
    exact (getL_some Fil.name hg).2
set_option maxRecDepth 100000 in
set_option maxHeartbeats 3200000 in
theorem search_any (l : List Fil) (n : ByteArray) (v : Value) (w : World) (hs : FSrt l) (hr : rdF w v l) (hl : l.length < 4611686018427387904) :
    Calls Tryd.prog 50 #[v, .string n, .func (.func 51) #[] #[]] w fun e w' => e = .returned (.tuple #[.int .i64 (fidx n l : Nat), .bool (fget n l).isSome]) ∧ Below w.heap.size w w' := by
  have HS := Lib.hid hs
  have HR := Lib.hid hr
  obtain ⟨I, hI⟩ : ∃ I, I = fidx n l := ⟨_, rfl⟩
  obtain ⟨F, hF⟩ : ∃ F, F = (fget n l).isSome := ⟨_, rfl⟩
  have HI := Lib.hid hI
  have HF := Lib.hid hF
  rw [← hI, ← hF]
  obtain ⟨ae, ce, rfl⟩ := rd_form hr
  clear hs hr hI hF
  go_enter Tryd.func50, Tryd.ntmps50
  go_wp2_with fail
  go_loopw [9, 10] (fun s9 s10 wr => ∃ lo hi : Nat, s9 = .int .i64 (lo : Int) ∧ s10 = .int .i64 (hi : Int) ∧ lo ≤ hi ∧ hi ≤ l.length ∧ Hid ((∀ t, t < lo → lt (l.getD t zeroFil).name n) ∧ (∀ t, hi ≤ t → t < l.length → ¬ lt (l.getD t zeroFil).name n)) ∧ Hid (Below w.heap.size w wr)) (fun s9 s10 _ => (intOf s10 - intOf s9).toNat)
  case atStart => exact ⟨0, l.length, rfl, rfl, Nat.zero_le _, Nat.le_refl _, Lib.hid ⟨fun t ht => absurd ht (Nat.not_lt_zero _), fun t h1 h2 => by omega⟩, Lib.hid (Below.refl _ _)⟩
  case round =>
    obtain ⟨lo, hi, rfl, rfl, hlh, hin, INV, HB⟩ := hrel
    by_cases hlt : lo < hi
    · obtain ⟨b, off, hae, hblt, hcell⟩ := rdF_at HR.out (by omega)
      subst hae
      obtain ⟨m, hm⟩ : ∃ m, m = (lo + hi) / 2 := ⟨_, rfl⟩
      have hml : m < l.length := by omega
      obtain ⟨x, hx⟩ : ∃ x, x = l.getD m zeroFil := ⟨_, rfl⟩
      obtain ⟨d0, d1, d2⟩ := hcell m hml
      rw [← hx] at d0 d1 d2
      rw [← HB.out.cell (p := ⟨b, off + m * 3, none⟩) hblt] at d0
      rw [← HB.out.cell (p := ⟨b, off + m * 3 + 1, none⟩) hblt] at d1
      rw [← HB.out.cell (p := ⟨b, off + m * 3 + 2, none⟩) hblt] at d2
      have HX := Lib.hid hx
      have HM := Lib.hid (show lo ≤ m ∧ m < hi from by omega)
      have hc := Lib.hid (findC_any x n wr)
      have mi : ((lo : Int) + (hi : Int)) / 2 = (m : Int) := by omega
      have mil : (m : Int) < (l.length : Int) := by omega
      have mi0 : (0 : Int) ≤ (m : Int) := by omega
      obtain ⟨c, hcc⟩ : ∃ c, c = cmpB x.name n := ⟨_, rfl⟩
      rw [← hcc] at hc
      have HC := Lib.hid hcc
      clear hx hcell hcc hm
      by_cases hneg : c < 0
      · have hnb : decide (c < 0) = true := decide_eq_true hneg
        have HN := Lib.hid hneg
        clear hneg
        go_wp2_with fail
        (with_reducible refine hc.out.mono ?_)
        rintro e w4 ⟨rfl, hb4⟩
        have HB4 := Lib.hid (HB.out.trans (hb4.mono HB.out.size))
        clear hb4
        go_wp2_with fail
        go_roundw
        case rel => exact ⟨m + 1, hi, by first | rfl | go_num, rfl, by have := HM.out; omega, hin, Lib.hid ⟨fun t ht => by
          have hxn : lt x.name n := by rw [HC.out] at HN; exact cmpB_lt.1 HN.out
          by_cases htm : t = m
          · rw [htm, ← HX.out]; exact hxn
          · have h1 := srt_lt HS.out (show t < m by omega) hml
            rw [← HX.out] at h1
            exact lt_trans h1 hxn, INV.out.2⟩, HB4⟩
        case measure =>
          have := HM.out
          simp [intOf]; omega
      · have hnb : decide (c < 0) = false := decide_eq_false hneg
        have HN := Lib.hid hneg
        clear hneg
        go_wp2_with fail
        (with_reducible refine hc.out.mono ?_)
        rintro e w4 ⟨rfl, hb4⟩
        have HB4 := Lib.hid (HB.out.trans (hb4.mono HB.out.size))
        clear hb4
        go_wp2_with fail
        go_roundw
        case rel => exact ⟨lo, m, rfl, by first | rfl | go_num, HM.out.1, by have := HM.out; omega, Lib.hid ⟨INV.out.1, fun t ht htl => by
          have hxn : ¬ lt x.name n := fun k => by have h1 := cmpB_lt.2 k; have h2 := HN.out; rw [HC.out] at h2; omega
          by_cases htm : t = m
          · rw [htm, ← HX.out]; exact hxn
          · have h1 := srt_lt HS.out (show m < t by omega) htl
            rw [← HX.out] at h1
            exact fun k => hxn (lt_trans h1 k)⟩, HB4⟩
        case measure =>
          have := HM.out
          simp [intOf]; omega
    · obtain rfl : lo = hi := by omega
      have hfi : fidx n l = lo := idx_bound HS.out hin INV.out.1 (INV.out.2 lo (Nat.le_refl _))
      have HFI := Lib.hid (show F = decide (lo < l.length ∧ (l.getD lo zeroFil).name = n) from HF.out.trans (has_bound HS.out hfi))
      have hI : I = lo := HI.out.trans hfi
      subst hI
      have hltb : decide ((I : Int) < (I : Int)) = false := by simp
      clear hfi
      by_cases hn : I < l.length
      · obtain ⟨b, off, hae, hblt, hcell⟩ := rdF_at HR.out (by omega)
        subst hae
        obtain ⟨x, hx⟩ : ∃ x, x = l.getD I zeroFil := ⟨_, rfl⟩
        obtain ⟨d0, d1, d2⟩ := hcell I hn
        rw [← hx] at d0 d1 d2
        rw [← HB.out.cell (p := ⟨b, off + I * 3, none⟩) hblt] at d0
        rw [← HB.out.cell (p := ⟨b, off + I * 3 + 1, none⟩) hblt] at d1
        rw [← HB.out.cell (p := ⟨b, off + I * 3 + 2, none⟩) hblt] at d2
        have hc := Lib.hid (findC_any x n wr)
        rw [← hx] at HFI
        have mil : (I : Int) < (l.length : Int) := by omega
        have milb : decide ((I : Int) < (l.length : Int)) = true := decide_eq_true mil
        have mi0 : (0 : Int) ≤ (I : Int) := by omega
        obtain ⟨c, hcc⟩ : ∃ c, c = cmpB x.name n := ⟨_, rfl⟩
        rw [← hcc] at hc
        have HF2 := Lib.hid (show F = (c == 0) from by
          rw [HFI.out, hcc]
          by_cases e : cmpB x.name n = 0
          · rw [decide_eq_true ⟨hn, cmpB_eq.1 e⟩, e]; rfl
          · rw [decide_eq_false (fun k => e (cmpB_eq.2 k.2)), beq_eq_false_iff_ne.2 e])
        clear hx hcell hcc HFI HF
        go_wp2_with fail
        (with_reducible refine hc.out.mono ?_)
        rintro e w4 ⟨rfl, hb4⟩
        have HB4 := Lib.hid (HB.out.trans (hb4.mono HB.out.size))
        clear hb4
        go_wp2_with fail
        go_ret2
        exact ⟨by rw [HF2.out]; first | rfl | simp, HB4.out⟩
      · have milb : decide ((I : Int) < (l.length : Int)) = false := decide_eq_false (by omega)
        have hF : F = false := by rw [HFI.out, decide_eq_false (fun k => hn k.1)]
        subst hF
        go_wp2_with fail
        go_ret2
        exact ⟨rfl, HB.out⟩
set_option maxRecDepth 100000 in
set_option maxHeartbeats 3200000 in
theorem find_any (l : List Fil) (n : ByteArray) (v : Value) (fu : Int) (w : World) (hs : FSrt l) (hr : rdF w v l) (hl : l.length < 4611686018427387904) :
    Calls Tryd.prog 29 #[.agg #[v, .int .i64 fu], .string n] w fun e w' => e = .returned (.tuple #[.int .i64 (fidx n l : Nat), .bool (fget n l).isSome]) ∧ Below w.heap.size w w' := by
  have hb := (Below.refl w.heap.size w).alloc (Nat.le_refl _) (.cells #[v, .int .i64 fu] 26)
  have HB := Lib.hid hb
  have HS := Lib.hid (search_any l n v _ hs (hr.below hb) hl)
  have h0 : (w.alloc (.cells #[v, .int .i64 fu] 26)).cell? ⟨w.heap.size, 0, none⟩ = some v := cell_block 0 _ rfl
  clear hb hs hr
  go_enter Tryd.func29, Tryd.ntmps29
  go_wp2_with fail
  (with_reducible refine HS.out.mono ?_)
  rintro e w1 ⟨rfl, hb1⟩
  have HB1 := Lib.hid (HB.out.trans (hb1.mono HB.out.size))
  clear hb1
  go_wp2_with fail
  go_ret2
  exact ⟨rfl, HB1.out⟩
end Go.Proofs.YtmacceamebdelaaDoor
/-! Disk3 -/
namespace Go.Proofs.YtmacceamebdelaaDoor
open Go.RowKit
set_option linter.unusedVariables false
set_option linter.unusedSimpArgs false

theorem fil_info : infoIs Tryd.prog 92 (Value.agg #[.string ⟨#[]⟩, .string ⟨#[]⟩, .string ⟨#[]⟩]) 3 48 := by unfold infoIs; kernel_rfl
theorem fil_size : (Tryd.prog.info? 92).map (·.size) = some 3 := by kernel_rfl
theorem fil_zero : ∀ w, (zeroValue 92).run Tryd.prog w = .ok ((Value.agg #[.string ⟨#[]⟩, .string ⟨#[]⟩, .string ⟨#[]⟩])) w := Tryd.zeroValue92
theorem fil_zone : ∀ u ∈ ((Value.agg #[.string ⟨#[]⟩, .string ⟨#[]⟩, .string ⟨#[]⟩]) : Value).cells.toList, u.oneCell' = true := by decide
set_option maxRecDepth 100000 in
set_option maxHeartbeats 3200000 in
theorem fil_del (n k : Nat) (v : Value) (xs : List Value) (w : World) (base : Nat) (j : Int) (hj : j = (k : Int) + 1) (hk : k < n) (hown : w.ownsRow base 92 3 v n xs) (h1 : ∀ u ∈ xs, u.oneCell' = true) :
    Calls Tryd.prog 55 #[v, .int .i64 (k : Int), .int .i64 j] w fun e w' => ∃ v', e = .returned v' ∧ w'.ownsRow base 92 3 v' (n - 1) (xs.take (k * 3) ++ xs.drop ((k + 1) * 3)) ∧ Upd (fun b => v.ownBlock = some b) w w' ∧ v'.ownBlock = v.ownBlock := by
  obtain ⟨hxl, ⟨_, h0⟩ | ⟨g, cap, cur, rfl, hbg, hg, hnc, hcm, hcs, htake⟩⟩ := hown
  · omega
  subst hj
  have hcm' : cap ≤ 9223372036854775807 := by unfold maxLen at hcm; omega
  have f0 : (0 : Int) ≤ (k : Int) + 1 := by omega
  have f1 : (k : Int) ≤ (k : Int) + 1 := by omega
  have f2 : (k : Int) + 1 ≤ (n : Int) := by omega
  have f6 : (k : Int) ≤ (cap : Int) := by omega
  have f7 : (k : Int) ≤ (n : Int) := by omega
  have f8 : (n : Int) ≤ (cap : Int) := by omega
  have f9 : k ≤ cap := by omega
  have f10 : k + 1 ≤ n := by omega
  have f3 : ((k : Int) + 1).toNat = k + 1 := by omega
  have f4 : ¬ ((k : Int) = (k : Int) + 1) := by omega
  have f5 : ((k : Int) == (k : Int) + 1) = false := beq_eq_false_iff_ne.2 f4
  have f11 : ¬ cap = k := by omega
  have f12 : ¬ cap = n - 1 := by omega
  have f13 : k + (n - (k + 1)) = n - 1 := by omega
  have HCELL := Lib.hid (cells_of_row hg htake)
  have HL := Lib.hid (del_list' cur.toList xs 3 k n cap hk hnc (by simpa using hcs) htake)
  have HB := Lib.hid hbg
  have HM := Lib.hid hcm
  have HS := Lib.hid (show cur.toList.length = cap * 3 by simpa using hcs)
  have H1 := Lib.hid h1
  have HG := Lib.hid hg
  have HX := Lib.hid hxl
  have HT := Lib.hid htake
  clear hcs htake hxl h1 hbg hcm hg
  have fin : ∀ (w2 w3 : World) (cur2 cur3 : Array Value), cur2.toList.length = cap * 3 → cur2.toList.take ((n - 1) * 3) = xs.take (k * 3) ++ xs.drop ((k + 1) * 3) → Upd (· = g) w w2 → Upd (· = g) w2 w3 →
      cur3 = (cur2.toList.take ((n - 1) * 3) ++ (Builtin.zeroCells ((Value.agg #[.string ⟨#[]⟩, .string ⟨#[]⟩, .string ⟨#[]⟩]) : Value).cells 1).toList ++ cur2.toList.drop ((n - 1) * 3 + 1 * ((Value.agg #[.string ⟨#[]⟩, .string ⟨#[]⟩, .string ⟨#[]⟩]) : Value).cells.size)).toArray → w3.heap[g]? = some (.cells cur3 92 (0, 0)) →
      w3.ownsRow base 92 3 (.slice (some ⟨g, 0, none⟩) (n - 1) cap) (n - 1) (xs.take (k * 3) ++ xs.drop ((k + 1) * 3)) ∧ Upd (fun b => (Value.slice (some ⟨g, 0, none⟩) n cap).ownBlock = some b) w w3 := by
    intro w2 w3 cur2 cur3 h2 h3 u2 u3 h4 h5
    have hzl : (Builtin.zeroCells ((Value.agg #[.string ⟨#[]⟩, .string ⟨#[]⟩, .string ⟨#[]⟩]) : Value).cells 1).toList.length = 1 * ((Value.agg #[.string ⟨#[]⟩, .string ⟨#[]⟩, .string ⟨#[]⟩]) : Value).cells.size := by rw [Array.length_toList, size_zeroCells]
    have hzc : ((Value.agg #[.string ⟨#[]⟩, .string ⟨#[]⟩, .string ⟨#[]⟩]) : Value).cells.size = 3 := rfl
    have hfit : (n - 1) * 3 + (Builtin.zeroCells ((Value.agg #[.string ⟨#[]⟩, .string ⟨#[]⟩, .string ⟨#[]⟩]) : Value).cells 1).toList.length ≤ cur2.toList.length := by rw [hzl, hzc, h2]; have := HL.out.2.2.1; omega
    rw [← hzl] at h4
    refine ⟨⟨?_, .inr ⟨g, cap, cur3, rfl, HB.out, h5, by omega, HM.out, ?_, ?_⟩⟩, (u2.trans u3).mono fun i hi => by subst hi; rfl⟩
    · rw [List.length_append, HL.out.1, List.length_take, HX.out]; omega
    · have := len_splice3 _ _ _ hfit
      rw [← h2, ← this, h4]; simp
    · rw [h4, List.toList_toArray, take_splice3' _ _ _ hfit, h3]
  have FIN := Lib.hid fin
  clear fin
  by_cases hz : cap = k + 1
  · obtain rfl : n = k + 1 := by omega
    subst hz
    go_enter Tryd.func55, Tryd.ntmps55
    go_wp2_with fail
    refine Lone.wp_region_order [(0, false), (1, false), (2, false), (3, false), (4, false), (5, false), (6, true), (7, false)] (fun _ => True) (by kernel_rfl) (by kernel_rfl) rfl (by kernel_rfl) (by intro _ _ d _ _ h; cases d <;> exact h) (trivial) ?_; simp only [List.map_cons, List.map_nil, List.getElem?_toArray, List.getElem?_cons_zero, List.getElem?_cons_succ, Option.getD_some]
    repeat (first | (refine Lone.ro_q (by rfl) (v := ?_) ?_ ?_; rotate_left; (focus (intro w' hSw; (try dsimp only at hSw); go_simp; try with_reducible rfl)); simp only [Act.put, List.setIfInBounds_toArray, List.set_cons_zero, List.set_cons_succ]) | (refine Lone.ro_skip (by rfl) ?_; simp only [Act.put, List.setIfInBounds_toArray, List.set_cons_zero, List.set_cons_succ]))
    (refine Lone.ro_loud (by rfl) (fun K hK => ?_))
    refine wp_append_roomK (.tmp 22) (.tmp 25) 24 rfl 92 3 Tryd.underlying24 fil_size g k _ (by rfl) ⟨g, 0, none⟩ _ _ (by rfl) cur (show w.drew.heap[g]? = _ from HG.out) (xs.drop ((k + 1) * 3)) ?cl ?cn ?co ?cr ?cf ?_
    case cl => (have := HL.out.1; first | exact this | (simp at this ⊢; omega))
    case cn => (intro j u hu; have := (List.getElem?_eq_some_iff.1 hu).1; rw [HL.out.1] at this; omega)
    case co => exact fun u hu => H1.out u (List.mem_of_mem_drop hu)
    case cr => omega
    case cf => (rw [HL.out.1, ← Array.length_toList, HS.out]; exact HL.out.2.1)
    intro w2 h2 u2
    have u2' : Upd (· = g) w w2 := ⟨u2.os, u2.tape, u2.output, u2.size, u2.block⟩
    obtain ⟨c2, hc2⟩ : ∃ c2 : Array Value, c2 = (cur.toList.take (k * 3) ++ xs.drop ((k + 1) * 3) ++ cur.toList.drop (k * 3 + (xs.drop ((k + 1) * 3)).length)).toArray := ⟨_, rfl⟩
    rw [← hc2] at h2
    have HC2 := Lib.hid (show c2.toList.length = (k + 1) * 3 ∧ c2.toList.take (((k + 1) - 1) * 3) = xs.take (k * 3) ++ xs.drop ((k + 1) * 3) by rw [hc2]; exact HL.out.2.2.2)
    have HU2 := Lib.hid u2'
    clear hc2 u2 u2'
    skip
    (refine hK.out _ _ (fun _ => True) (.inl fun _ h => h) (trivial) ?_; clear hK K; try simp only [Act.put, List.setIfInBounds_toArray, List.set_cons_zero, List.set_cons_succ])
    repeat (first | (refine Lone.ro_q (by rfl) (v := ?_) ?_ ?_; rotate_left; (focus (intro w' hSw; (try dsimp only at hSw); go_simp; try with_reducible rfl)); simp only [Act.put, List.setIfInBounds_toArray, List.set_cons_zero, List.set_cons_succ]) | (refine Lone.ro_skip (by rfl) ?_; simp only [Act.put, List.setIfInBounds_toArray, List.set_cons_zero, List.set_cons_succ]))
    refine Lone.ro_nil ?_
    go_wp2_with fail
    have hr := run_clear_rowK (P := Tryd.prog) w2 24 92 0 (Value.agg #[.string ⟨#[]⟩, .string ⟨#[]⟩, .string ⟨#[]⟩]) Tryd.underlying24 fil_zero fil_zone g (k * 3) 1 (1) (by omega) c2 92 h2 (by have h1 := HC2.out.1; rw [Array.length_toList] at h1; have := HL.out.2.2.1; have hz : ((Value.agg #[.string ⟨#[]⟩, .string ⟨#[]⟩, .string ⟨#[]⟩]) : Value).cells.size = 3 := rfl; rw [hz, h1]; omega)
    obtain ⟨w3, hw3⟩ : ∃ w3, w3 = w2.setRow g (c2.toList.take (k * 3) ++ (Builtin.zeroCells ((Value.agg #[.string ⟨#[]⟩, .string ⟨#[]⟩, .string ⟨#[]⟩]) : Value).cells 1).toList ++ c2.toList.drop (k * 3 + 1 * ((Value.agg #[.string ⟨#[]⟩, .string ⟨#[]⟩, .string ⟨#[]⟩]) : Value).cells.size)).toArray := ⟨_, rfl⟩
    have h3 := setRow_heap w2 g c2 (c2.toList.take (k * 3) ++ (Builtin.zeroCells ((Value.agg #[.string ⟨#[]⟩, .string ⟨#[]⟩, .string ⟨#[]⟩]) : Value).cells 1).toList ++ c2.toList.drop (k * 3 + 1 * ((Value.agg #[.string ⟨#[]⟩, .string ⟨#[]⟩, .string ⟨#[]⟩]) : Value).cells.size)).toArray 92 (0, 0) h2
    have u3 : Upd (· = g) w2 w3 := by rw [hw3]; exact upd_setRow _
    skip
    rw [← hw3] at h3 hr
    rw [hr]
    simp only [Result.andThen]
    rw [Oper.upon_value]
    have hf := FIN.out w2 w3 c2 _ HC2.out.1 HC2.out.2 HU2.out u3 rfl h3
    have HF := Lib.hid hf
    clear hf hr h3 u3 hw3 h2
    go_wp2_with fail
    go_ret
    exact ⟨_, rfl, HF.out.1, HF.out.2, rfl⟩
  · have hz2 : ¬ (k + 1 = cap) := by omega
    go_enter Tryd.func55, Tryd.ntmps55
    go_wp2_with fail
    refine Lone.wp_region_order [(0, false), (1, false), (2, false), (3, false), (4, false), (5, false), (6, true), (7, false)] (fun _ => True) (by kernel_rfl) (by kernel_rfl) rfl (by kernel_rfl) (by intro _ _ d _ _ h; cases d <;> exact h) (trivial) ?_; simp only [List.map_cons, List.map_nil, List.getElem?_toArray, List.getElem?_cons_zero, List.getElem?_cons_succ, Option.getD_some]
    repeat (first | (refine Lone.ro_q (by rfl) (v := ?_) ?_ ?_; rotate_left; (focus (intro w' hSw; (try dsimp only at hSw); go_simp; try with_reducible rfl)); simp only [Act.put, List.setIfInBounds_toArray, List.set_cons_zero, List.set_cons_succ]) | (refine Lone.ro_skip (by rfl) ?_; simp only [Act.put, List.setIfInBounds_toArray, List.set_cons_zero, List.set_cons_succ]))
    (refine Lone.ro_loud (by rfl) (fun K hK => ?_))
    refine wp_append_roomK (.tmp 22) (.tmp 25) 24 rfl 92 3 Tryd.underlying24 fil_size g k _ (by rfl) ⟨g, (k + 1) * 3, none⟩ _ _ (by rfl) cur (show w.drew.heap[g]? = _ from HG.out) (xs.drop ((k + 1) * 3)) ?cl ?cn ?co ?cr ?cf ?_
    case cl => (have := HL.out.1; first | exact this | (simp at this ⊢; omega))
    case cn => (intro j u hu; rw [addr_add]; exact HCELL.out _ u (by rw [List.getElem?_drop] at hu; exact hu))
    case co => exact fun u hu => H1.out u (List.mem_of_mem_drop hu)
    case cr => omega
    case cf => (rw [HL.out.1, ← Array.length_toList, HS.out]; exact HL.out.2.1)
    intro w2 h2 u2
    have u2' : Upd (· = g) w w2 := ⟨u2.os, u2.tape, u2.output, u2.size, u2.block⟩
    obtain ⟨c2, hc2⟩ : ∃ c2 : Array Value, c2 = (cur.toList.take (k * 3) ++ xs.drop ((k + 1) * 3) ++ cur.toList.drop (k * 3 + (xs.drop ((k + 1) * 3)).length)).toArray := ⟨_, rfl⟩
    rw [← hc2] at h2
    have HC2 := Lib.hid (show c2.toList.length = cap * 3 ∧ c2.toList.take ((n - 1) * 3) = xs.take (k * 3) ++ xs.drop ((k + 1) * 3) by rw [hc2]; exact HL.out.2.2.2)
    have HU2 := Lib.hid u2'
    clear hc2 u2 u2'
    rw [f13]
    (refine hK.out _ _ (fun _ => True) (.inl fun _ h => h) (trivial) ?_; clear hK K; try simp only [Act.put, List.setIfInBounds_toArray, List.set_cons_zero, List.set_cons_succ])
    repeat (first | (refine Lone.ro_q (by rfl) (v := ?_) ?_ ?_; rotate_left; (focus (intro w' hSw; (try dsimp only at hSw); go_simp; try with_reducible rfl)); simp only [Act.put, List.setIfInBounds_toArray, List.set_cons_zero, List.set_cons_succ]) | (refine Lone.ro_skip (by rfl) ?_; simp only [Act.put, List.setIfInBounds_toArray, List.set_cons_zero, List.set_cons_succ]))
    refine Lone.ro_nil ?_
    go_wp2_with fail
    have hr := run_clear_rowK (P := Tryd.prog) w2 24 92 0 (Value.agg #[.string ⟨#[]⟩, .string ⟨#[]⟩, .string ⟨#[]⟩]) Tryd.underlying24 fil_zero fil_zone g ((n - 1) * 3) (n - (n - 1)) (cap - (n - 1)) (by omega) c2 92 h2 (by have h1 := HC2.out.1; rw [Array.length_toList] at h1; have := HL.out.2.2.1; have hz : ((Value.agg #[.string ⟨#[]⟩, .string ⟨#[]⟩, .string ⟨#[]⟩]) : Value).cells.size = 3 := rfl; rw [hz, h1]; omega)
    obtain ⟨w3, hw3⟩ : ∃ w3, w3 = w2.setRow g (c2.toList.take ((n - 1) * 3) ++ (Builtin.zeroCells ((Value.agg #[.string ⟨#[]⟩, .string ⟨#[]⟩, .string ⟨#[]⟩]) : Value).cells 1).toList ++ c2.toList.drop ((n - 1) * 3 + 1 * ((Value.agg #[.string ⟨#[]⟩, .string ⟨#[]⟩, .string ⟨#[]⟩]) : Value).cells.size)).toArray := ⟨_, rfl⟩
    have h3 := setRow_heap w2 g c2 (c2.toList.take ((n - 1) * 3) ++ (Builtin.zeroCells ((Value.agg #[.string ⟨#[]⟩, .string ⟨#[]⟩, .string ⟨#[]⟩]) : Value).cells 1).toList ++ c2.toList.drop ((n - 1) * 3 + 1 * ((Value.agg #[.string ⟨#[]⟩, .string ⟨#[]⟩, .string ⟨#[]⟩]) : Value).cells.size)).toArray 92 (0, 0) h2
    have u3 : Upd (· = g) w2 w3 := by rw [hw3]; exact upd_setRow _
    rw [show n - (n - 1) = 1 by omega] at hr ⊢
    rw [← hw3] at h3 hr
    rw [hr]
    simp only [Result.andThen]
    rw [Oper.upon_value]
    have hf := FIN.out w2 w3 c2 _ HC2.out.1 HC2.out.2 HU2.out u3 rfl h3
    have HF := Lib.hid hf
    clear hf hr h3 u3 hw3 h2
    go_wp2_with fail
    go_ret
    exact ⟨_, rfl, HF.out.1, HF.out.2, rfl⟩
set_option maxRecDepth 100000 in
set_option maxHeartbeats 3200000 in
theorem fil_ins (n k : Nat) (v : Value) (xs : List Value) (w : World) (base vb : Nat) (V : Array Value) (hk : k ≤ n) (hown : w.ownsRow base 92 3 v n xs) (h1 : ∀ u ∈ xs, u.oneCell' = true) (hb : base ≤ w.heap.size)
    (hvb : w.heap[vb]? = some (.cells V 92 (0, 0))) (hV : V.size = 3) (hV1 : ∀ u ∈ V.toList, u.oneCell' = true) (hne : v.ownBlock ≠ some vb) (hbig : (n + 1) * 48 ≤ 140737488355328) :
    Calls Tryd.prog 57 #[v, .int .i64 (k : Int), .slice (some ⟨vb, 0, none⟩) 1 1] w fun e w' => ∃ v', e = .returned v' ∧ w'.ownsRow base 92 3 v' (n + 1) (xs.take (k * 3) ++ V.toList ++ xs.drop (k * 3)) ∧ Upd (fun b => v.ownBlock = some b) w w' := by
  have hVL : V.toList.length = 3 := by simpa using hV
  obtain ⟨R, hR⟩ : ∃ R, R = xs.take (k * 3) ++ V.toList ++ xs.drop (k * 3) := ⟨_, rfl⟩
  rw [← hR]
  have HR := Lib.hid hR
  clear hR
  by_cases hkn : k = n
  · subst hkn
    have hxl := hown.1
    have HF := Lib.hid (show R = xs ++ V.toList by rw [HR.out, ← hxl, List.take_length, List.drop_length, List.append_nil])
    clear HR
    have HO := Lib.hid hown
    have HVB := Lib.hid hvb
    have HV1 := Lib.hid hV1
    have f1 : ((1 : Int) == 0) = false := rfl
    obtain ⟨_, ⟨rfl, rfl⟩ | ⟨g, cap, cur, rfl, hbg, hg, hnc, hcm, hcs, htake⟩⟩ := hown
    · clear hvb hV1 h1 hxl hVL
      go_enter Tryd.func57, Tryd.ntmps57
      go_wp2_with (first | (at_builtin; refine wpList_appendX rfl (.tmp 23) (.tmp 24) 24 rfl fil_info Tryd.underlying24 rfl (by decide) (by decide) HO.out hb HVB.out hV HV1.out hbig rfl rfl ?_; intro v' w' ho hu))
      all_goals (have HO2 := Lib.hid ho; have HU2 := Lib.hid hu; clear ho hu; go_ret; exact ⟨_, rfl, by rw [HF.out]; exact HO2.out, HU2.out⟩)
    · have f2 : (k : Int) ≤ (cap : Int) := by omega
      clear hvb hV1 h1 hxl hVL hbg hg hcs htake
      go_enter Tryd.func57, Tryd.ntmps57
      go_wp2_with (first | (at_builtin; refine wpList_appendX rfl (.tmp 23) (.tmp 24) 24 rfl fil_info Tryd.underlying24 rfl (by decide) (by decide) HO.out hb HVB.out hV HV1.out hbig rfl rfl ?_; intro v' w' ho hu))
      all_goals (have HO2 := Lib.hid ho; have HU2 := Lib.hid hu; clear ho hu; go_ret; exact ⟨_, rfl, by rw [HF.out]; exact HO2.out, HU2.out⟩)
  · obtain ⟨hxl, ⟨_, h0⟩ | ⟨g, cap, cur, rfl, hbg, hg, hnc, hcm, hcs, htake⟩⟩ := hown
    · omega
    have hng : vb ≠ g := fun e => hne (by subst e; rfl)
    have hcm' : cap ≤ 9223372036854775807 := by unfold maxLen at hcm; omega
    have f1 : ((1 : Int) == 0) = false := rfl
    have f2 : (k : Int) ≤ (n : Int) := by omega
    have f3 : ¬ ((k : Int) = (n : Int)) := by omega
    have f4 : ((k : Int) == (n : Int)) = false := beq_eq_false_iff_ne.2 f3
    have f5 : ¬ cap = k := by omega
    have f6 : IntKind.i64.wrap ((n : Int) + 1) = (n : Int) + 1 := by rw [IntKind.wrap_i64]; omega
    have f7 : IntKind.i64.wrap ((k : Int) + 1) = (k : Int) + 1 := by rw [IntKind.wrap_i64]; omega
    have f8 : (0 : Int) ≤ (k : Int) + 1 := by omega
    have f9 : ((k : Int) + 1).toNat = k + 1 := by omega
    have f10 : (0 : Int) ≤ (n : Int) + 1 := by omega
    have f11 : ((n : Int) + 1).toNat = n + 1 := by omega
    have f12 : (k : Int) + 1 ≤ (n : Int) + 1 := by omega
    have f13 : (k : Int) ≤ (n : Int) + 1 := by omega
    have f14 : k ≤ n := hk
    have f15 : ¬ k = n := hkn
    have HCELL := Lib.hid (cells_of_row hg htake)
    have HB := Lib.hid hbg
    have HM := Lib.hid hcm
    have H1 := Lib.hid h1
    have HG := Lib.hid hg
    have HX := Lib.hid hxl
    have HT := Lib.hid htake
    have HVB := Lib.hid hvb
    have HV1 := Lib.hid hV1
    have HVL := Lib.hid hVL
    have HCS := Lib.hid (show cur.toList.length = cap * 3 by simpa using hcs)
    clear hcs htake hxl h1 hbg hcm hvb hV1 hg hVL
    by_cases hroom : n + 1 ≤ cap
    · have f20 : (n : Int) + 1 ≤ (cap : Int) := by omega
      have f21 : decide ((cap : Int) < (n : Int) + 1) = false := decide_eq_false (by omega)
      have f22 : ¬ cap = k + 1 := by omega
      have f23 : ¬ (cap : Int) < (n : Int) + 1 := by omega
      obtain ⟨c2, hc2⟩ : ∃ c2, c2 = (cur.toList.take ((k + 1) * 3) ++ xs.drop (k * 3) ++ cur.toList.drop ((k + 1) * 3 + (xs.drop (k * 3)).length)).toArray := ⟨_, rfl⟩
      have HL := Lib.hid (ins_list cur.toList xs V.toList 3 k n cap hk hroom HCS.out HT.out HVL.out c2.toList (by rw [hc2]))
      have HC2 := Lib.hid hc2
      have hov : ∀ lb cb, (callFunc 65 #[.slice (some ⟨vb, 0, none⟩) 1 1, .slice (some ⟨g, (k + 1) * 3, none⟩) lb cb]).run Tryd.prog w = .ok (.value (.bool false)) w := fun lb cb => by
        rw [run_callFunc_extern Tryd.func65 (by kernel_rfl) (by kernel_rfl) (by kernel_rfl) (e := Extern.SlicesOverlaps.overlaps #[24, 24] #[4]) (by kernel_rfl),
          Lib.run_overlaps_apart w 24 4 92 Tryd.underlying24 3 Tryd.sizeOf92 ⟨vb, 0, none⟩ ⟨g, (k + 1) * 3, none⟩ 1 1 lb cb hng 92 92 V.size cur.size (by simp [World.shape?, HVB.out]) (by simp [World.shape?, HG.out]) (by have h1 := HCS.out; rw [Array.length_toList] at h1; rw [h1]; omega) (by simp [World.frozen?, HVB.out]) (by simp [World.frozen?, HVB.out])]
        rfl
      clear hc2
      go_enter Tryd.func57, Tryd.ntmps57
      go_wp2_with (simp only [hov])
      clear hov
      refine Lone.wp_region_order [(0, false), (1, false), (2, false), (3, false), (4, false), (5, false), (6, false), (7, false), (8, true)] (fun _ => True) (by kernel_rfl) (by kernel_rfl) rfl (by kernel_rfl) (by intro _ _ d _ _ h; cases d <;> exact h) (trivial) ?_; simp only [List.map_cons, List.map_nil, List.getElem?_toArray, List.getElem?_cons_zero, List.getElem?_cons_succ, Option.getD_some]
      repeat (first | (refine Lone.ro_q (by rfl) (v := ?_) ?_ ?_; rotate_left; (focus (intro w' hSw; (try dsimp only at hSw); go_simp; try with_reducible rfl)); simp only [Act.put, List.setIfInBounds_toArray, List.set_cons_zero, List.set_cons_succ]) | (refine Lone.ro_skip (by rfl) ?_; simp only [Act.put, List.setIfInBounds_toArray, List.set_cons_zero, List.set_cons_succ]))
      (refine Lone.ro_loud (by rfl) (fun K hK => ?_))
      refine wp_copyK (.tmp 73) (.tmp 76) 24 24 rfl 92 3 Tryd.underlying24 fil_size g ((k + 1) * 3) _ _ ⟨g, k * 3, none⟩ _ _ (by rfl) (by rfl) cur 92 (show w.drew.heap[g]? = _ from HG.out) (xs.drop (k * 3)) (by rw [HL.out.1]; first | (simp only [Nat.min_def]; split <;> omega) | (congr 1; simp only [Nat.min_def]; split <;> omega)) (fun j u hu => by rw [addr_add]; exact HCELL.out _ u (by rw [List.getElem?_drop] at hu; exact hu)) (by rw [HL.out.1, ← Array.length_toList, HCS.out]; exact HL.out.2.1) (fun u hu => H1.out u (List.mem_of_mem_drop hu)) ?_
      intro w2 h2 u2
      rw [← HC2.out] at h2
      have HU2 := Lib.hid (show Upd (· = g) w w2 from ⟨u2.os, u2.tape, u2.output, u2.size, u2.block⟩)
      clear u2
      have HSRC := Lib.hid (show ∀ j u, V.toList[j]? = some u → w2.cell? ((⟨vb, 0, none⟩ : Addr).add j) = some u from fun j u hu => cells_of_blk (blk_upd HVB.out HU2.out hng) j u hu)
      have HFIT := Lib.hid (show k * 3 + V.toList.length ≤ c2.size by rw [← Array.length_toList, HL.out.2.2.1]; exact HL.out.2.2.2.1)
      (refine hK.out _ _ (fun _ => True) (.inl fun _ h => h) (trivial) ?_; clear hK K; try simp only [Act.put, List.setIfInBounds_toArray, List.set_cons_zero, List.set_cons_succ])
      refine Lone.ro_nil ?_
      go_wp2_with fail
      have hr := run_copy_rowK (P := Tryd.prog) w2 24 24 3 92 3 g (k * 3) (n + 1 - k) (cap - k) ⟨vb, 0, none⟩ 1 1 c2 92 V.toList Tryd.underlying24 fil_size h2 (by rw [HVL.out]; first | (simp only [Nat.min_def]; split <;> omega) | (congr 1; simp only [Nat.min_def]; split <;> omega)) HSRC.out HFIT.out HV1.out
      have h3 := setRow_heap w2 g c2 (c2.toList.take (k * 3) ++ V.toList ++ c2.toList.drop (k * 3 + V.toList.length)).toArray 92 (0, 0) h2
      obtain ⟨w3, hw3⟩ : ∃ w3, w3 = w2.setRow g (c2.toList.take (k * 3) ++ V.toList ++ c2.toList.drop (k * 3 + V.toList.length)).toArray := ⟨_, rfl⟩
      have u3 : Upd (· = g) w2 w3 := by rw [hw3]; exact upd_setRow _
      rw [← hw3] at h3 hr
      rw [hr]
      simp only [Result.andThen]
      rw [Oper.upon_value]
      clear hr hw3
      have HU3 := Lib.hid u3
      have H3 := Lib.hid h3
      clear u3 h3 h2
      go_wp2_with fail
      go_ret
      refine ⟨_, rfl, ⟨?_, .inr ⟨g, cap, _, rfl, HB.out, H3.out, hroom, HM.out, ?_, ?_⟩⟩, (HU2.out.trans HU3.out).mono fun i hi => by subst hi; rfl⟩
      · rw [HR.out, ← HL.out.2.2.2.2.2, List.length_take, HL.out.2.2.2.2.1]; have : (n + 1) * 3 ≤ cap * 3 := Nat.mul_le_mul_right _ hroom; omega
      · have := HL.out.2.2.2.2.1; simpa using this
      · rw [HR.out]; exact HL.out.2.2.2.2.2
    · obtain rfl : n = cap := by omega
      have f20 : (n : Int) < (n : Int) + 1 := by omega
      have f21 : decide ((n : Int) < (n : Int) + 1) = true := decide_eq_true f20
      have f24 : IntKind.i64.wrap ((n : Int) + 1 - (k : Int)) = (n : Int) + 1 - (k : Int) := by rw [IntKind.wrap_i64]; omega
      have HOL := Lib.hid (show (xs.take (k * 3)).length = k * 3 by rw [List.length_take, HX.out]; have : k * 3 ≤ n * 3 := Nat.mul_le_mul_right _ hk; omega)
      have HOS := Lib.hid (show ∀ j u, (xs.take (k * 3))[j]? = some u → w.cell? ⟨g, j, none⟩ = some u from fun j u hj => HCELL.out j u (by
        rw [List.getElem?_take] at hj
        split at hj
        · exact hj
        · cases hj))
      have HKX := Lib.hid (show (n : Int) + 1 - (k : Int) = ((n + 1 - k : Nat) : Int) by omega)
      have HGW := Lib.hid (lt_of_block HG.out)
      have HVW := Lib.hid (lt_of_block HVB.out)
      go_enter Tryd.func57, Tryd.ntmps57
      go_wp2_with (first | (at_builtin; refine wpList_append_zerosK rfl (.tmp 34) (.tmp 39) 24 3 rfl fil_info Tryd.underlying24 Tryd.underlying3 rfl (by decide) g k n (n + 1 - k) (n + 1) (by omega) ((n : Int) + 1 - (k : Int)) HKX.out rfl rfl (xs.take (k * 3)) HOL.out HOS.out (by omega) (by omega) (by rw [show k + (n + 1 - k) = n + 1 by omega]; exact hbig) (by unfold maxLen; omega) ?_; intro w2 cap2 c1 q1 q2 q3 q4 q5 u2 q6; have q7 : ¬ cap2 = k := (by omega); have q8 : ¬ cap2 = k + 1 := (by omega); have HQ := Lib.hid (And.intro q2 (And.intro q3 q4)); have HU2 := Lib.hid u2; have HQ5 := Lib.hid q5; clear q2 q3 q4 q5 u2 q6))
      obtain ⟨c2, hc2⟩ : ∃ c2, c2 = (c1.toList.take (k * 3) ++ V.toList ++ c1.toList.drop (k * 3 + V.toList.length)).toArray := ⟨_, rfl⟩
      have HL := Lib.hid (ins_list' c1.toList xs V.toList 3 k n cap2 hk q1 (by rw [Array.length_toList]; exact HQ.out.2.1) HX.out HQ.out.2.2 HVL.out c2.toList (by rw [hc2]))
      have HSRC := Lib.hid (show ∀ j u, V.toList[j]? = some u → w2.cell? ((⟨vb, 0, none⟩ : Addr).add j) = some u from fun j u hu => cells_of_blk (blk_upd HVB.out HU2.out (fun h => h)) j u hu)
      have hr := run_copy_rowK (P := Tryd.prog) w2 24 24 3 92 3 w.heap.size (k * 3) (n + 1 - k) (cap2 - k) ⟨vb, 0, none⟩ 1 1 c1 92 V.toList Tryd.underlying24 fil_size HQ5.out (by rw [HVL.out]; first | (simp only [Nat.min_def]; split <;> omega) | (congr 1; simp only [Nat.min_def]; split <;> omega)) HSRC.out (by rw [HQ.out.2.1]; exact HL.out.2.1) HV1.out
      have h3 := setRow_heap w2 w.heap.size c1 (c1.toList.take (k * 3) ++ V.toList ++ c1.toList.drop (k * 3 + V.toList.length)).toArray 92 (0, 0) HQ5.out
      obtain ⟨w3, hw3⟩ : ∃ w3, w3 = w2.setRow w.heap.size (c1.toList.take (k * 3) ++ V.toList ++ c1.toList.drop (k * 3 + V.toList.length)).toArray := ⟨_, rfl⟩
      have u3 : Upd (· = w.heap.size) w2 w3 := by rw [hw3]; exact upd_setRow _
      rw [← hw3] at h3 hr
      rw [← hc2] at h3
      rw [hr]
      simp only [Result.andThen]
      rw [Oper.upon_value]
      clear hr hw3
      have HU3 := Lib.hid u3
      have H3 := Lib.hid h3
      clear u3 h3 hc2
      have HG3 := Lib.hid (show w3.heap[g]? = some (.cells cur 92 (0, 0)) from blk_upd (blk_upd HG.out HU2.out (fun h => h)) HU3.out (Nat.ne_of_lt HGW.out))
      go_wp2_with fail
      refine Lone.wp_region_order [(0, false), (1, false), (2, false), (3, false), (4, false), (5, false), (6, false), (7, false), (8, true)] (fun _ => True) (by kernel_rfl) (by kernel_rfl) rfl (by kernel_rfl) (by intro _ _ d _ _ h; cases d <;> exact h) (trivial) ?_; simp only [List.map_cons, List.map_nil, List.getElem?_toArray, List.getElem?_cons_zero, List.getElem?_cons_succ, Option.getD_some]
      repeat (first | (refine Lone.ro_q (by rfl) (v := ?_) ?_ ?_; rotate_left; (focus (intro w' hSw; (try dsimp only at hSw); go_simp; try with_reducible rfl)); simp only [Act.put, List.setIfInBounds_toArray, List.set_cons_zero, List.set_cons_succ]) | (refine Lone.ro_skip (by rfl) ?_; simp only [Act.put, List.setIfInBounds_toArray, List.set_cons_zero, List.set_cons_succ]))
      (refine Lone.ro_loud (by rfl) (fun K hK => ?_))
      refine wp_copyK (.tmp 50) (.tmp 53) 24 24 rfl 92 3 Tryd.underlying24 fil_size w.heap.size ((k + 1) * 3) _ _ ⟨g, k * 3, none⟩ _ _ (by rfl) (by rfl) c2 92 (show w3.drew.heap[w.heap.size]? = _ from H3.out) (xs.drop (k * 3)) (by rw [HL.out.1]; first | (simp only [Nat.min_def]; split <;> omega) | (congr 1; simp only [Nat.min_def]; split <;> omega)) (fun j u hu => by rw [addr_add]; exact cells_of_row (w := w3) HG3.out HT.out _ u (by rw [List.getElem?_drop] at hu; exact hu)) (by rw [HL.out.1, ← Array.length_toList, HL.out.2.2.1]; exact HL.out.2.2.2.1) (fun u hu => H1.out u (List.mem_of_mem_drop hu)) ?_
      intro w4 h4 u4
      have HU4 := Lib.hid (show Upd (· = w.heap.size) w3 w4 from ⟨u4.os, u4.tape, u4.output, u4.size, u4.block⟩)
      have H4 := Lib.hid h4
      clear u4 h4
      (refine hK.out _ _ (fun _ => True) (.inl fun _ h => h) (trivial) ?_; clear hK K; try simp only [Act.put, List.setIfInBounds_toArray, List.set_cons_zero, List.set_cons_succ])
      (refine Lone.ro_nil ?_; go_wp2_with fail)
      go_ret
      refine ⟨_, rfl, ⟨?_, .inr ⟨w.heap.size, cap2, _, rfl, hb, H4.out, q1, HQ.out.1, ?_, ?_⟩⟩, (((Upd.refl _ w).trans' HU2.out (fun i hi => hi.elim)).trans' HU3.out (fun i hi => .inr (by omega))).trans' HU4.out (fun i hi => .inr (by omega))⟩
      · rw [HR.out, ← HL.out.2.2.2.2.2, List.length_take, HL.out.2.2.2.2.1]; have : (n + 1) * 3 ≤ cap2 * 3 := Nat.mul_le_mul_right _ q1; omega
      · have := HL.out.2.2.2.2.1; simpa using this
      · rw [HR.out]; exact HL.out.2.2.2.2.2
end Go.Proofs.YtmacceamebdelaaDoor
/-! Disk4 -/
namespace Go.Proofs.YtmacceamebdelaaDoor
open Go.RowKit
set_option linter.unusedVariables false
set_option linter.unusedSimpArgs false

set_option maxRecDepth 100000 in
set_option maxHeartbeats 3200000 in
theorem clone_any (l : List Fil) (v : Value) (w : World) (hr : rdF w v l) (hl : l.length * 48 ≤ 140737488355328) :
    Calls Tryd.prog 39 #[v] w fun e w' => ∃ v', e = .returned v' ∧ w'.ownsRow w.heap.size 92 3 v' l.length (fvs l) ∧ Below w.heap.size w w' := by
  have q22 : ∀ (w : World) (a : Option Addr) (n c n' c' : Nat), (binOp .eql 24 (.slice a n c) (.slice none n' c')).run Tryd.prog w = .ok (.bool a.isNone) w := fun w a n c n' c' => Lib.run_eql_slice_nil w _ _ a n c n' c' Tryd.underlying24
  obtain ⟨ao, cap, rfl⟩ := rd_form hr
  cases ao with
  | none =>
    have h0 : l.length = 0 := by
      obtain ⟨_, ao', cap', hv, hle, _, hz, _⟩ := hr
      simp only [Value.slice.injEq, true_and] at hv
      obtain ⟨rfl, rfl⟩ := hv
      have := hz rfl
      omega
    have he : l = [] := List.eq_nil_of_length_eq_zero h0
    subst he
    clear hr
    go_enter Tryd.func39, Tryd.ntmps39
    go_wp2_with fail
    go_ret
    exact ⟨_, rfl, World.ownsRow_nil _ _ _ _, Below.refl _ _⟩
  | some a =>
    have HR := Lib.hid hr
    have HLL := Lib.hid hl
    clear hr hl
    go_enter Tryd.func39, Tryd.ntmps39
    go_wp2_with (first | (at_builtin; refine wpList_append_rd rfl (.tmp 5) (.tmp 6) 24 rfl fil_info Tryd.underlying24 rfl (by decide) (by decide) (w0 := w) (B := w.heap.size) (World.ownsRow_made w #[] 0 (Nat.le_refl _) (Nat.zero_le _) (by simp)) ((Below.refl _ w).alloc (Nat.le_refl _) _) (Nat.le_refl _) (by simp) (HR.out.below ((Below.refl _ w).alloc (Nat.le_refl _) _)) (fvs_one l) (by rw [Nat.zero_add]; exact HLL.out) rfl rfl ?_; intro v' w' ho hb))
    have HO := Lib.hid ho
    have HB := Lib.hid hb
    clear ho hb
    go_ret
    exact ⟨_, rfl, by have := HO.out; simpa using this, HB.out⟩

theorem set2_upd {w : World} {g : Nat} (u u' : Value) : Upd (· = g) w ((w.setCell ⟨g, 0, none⟩ u).setCell ⟨g, 1, none⟩ u') := ((Upd.refl (· = g) w).setCell (a := ⟨g, 0, none⟩) (.inl rfl) _).setCell (a := ⟨g, 1, none⟩) (.inl rfl) _
theorem set2_below {B : Nat} {w0 w : World} (h : Below B w0 w) {g : Nat} (hg : B ≤ g) (u u' : Value) : Below B w0 ((w.setCell ⟨g, 0, none⟩ u).setCell ⟨g, 1, none⟩ u') := (h.setCell hg _).setCell hg _
theorem owns_ne {w : World} {base : Nat} {e t : TypeId} {size : Nat} {v : Value} {n : Nat} {xs : List Value} {b : Nat} {cs : Array Value} {fr : Nat × Nat} (h : w.ownsRow base e size v n xs) (hb : w.heap[b]? = some (.cells cs t fr)) (hne : e ≠ t) : v.ownBlock ≠ some b := by
  rcases h.2 with ⟨rfl, _⟩ | ⟨g, cap, cur, rfl, _, hg, _⟩
  · intro k; cases k
  · intro k
    obtain rfl : g = b := by simpa [Value.ownBlock] using k
    rw [hg] at hb
    simp at hb
    exact hne hb.2.1
/-- A call that answers a disk and an error's number. -/
def RetD (w : World) (r : Dsk × Int) (e : Ending) (w' : World) : Prop := ∃ v', e = .returned (.tuple #[.agg #[v', .int .i64 r.1.fuse], .int .i64 r.2]) ∧ rdF w' v' r.1.files ∧ Below w.heap.size w w'
/-- A disk's row as it was, or one of the call's own. -/
def NewF (B : Nat) (w' : World) (v v' : Value) (l l' : List Fil) : Prop := (v' = v ∧ l' = l) ∨ w'.ownsRow B 92 3 v' l'.length (fvs l')
section
variable {B B2 : Nat} {w w2 : World} {v v1 v2 : Value} {l l1 l2 : List Fil}
theorem NewF.set2 (h : NewF B w v v1 l l1) {b : Nat} {cs : Array Value} {fr : Nat × Nat} (hb : w.heap[b]? = some (.cells cs 26 fr)) (hB : B2 ≤ B) (u u' : Value) : NewF B2 ((w.setCell ⟨b, 0, none⟩ u).setCell ⟨b, 1, none⟩ u') v v1 l l1 := by
  rcases h with h | h
  · exact .inl h
  · have hn := owns_ne (e := 92) (t := 26) h hb (by decide)
    exact .inr (owns_base (owns_setCell (owns_setCell h hn _) hn _) hB)
theorem NewF.trans (h : NewF B w v v1 l l1) (k : NewF B2 w2 v1 v2 l1 l2) (hb : Below w.heap.size w w2) (hB : B ≤ B2) : NewF B w2 v v2 l l2 := by
  rcases k with ⟨rfl, rfl⟩ | k
  · rcases h with h | h
    · exact .inl h
    · exact .inr (owns_below h hb)
  · exact .inr (owns_base k hB)
theorem NewF.mono (h : NewF B w v v1 l l1) (hB : B2 ≤ B) : NewF B2 w v v1 l l1 := h.imp id (fun h => owns_base h hB)
theorem NewF.owned (h : NewF B w v v1 l l1) (k : w.ownsRow B2 92 3 v l.length (fvs l)) (hB : B2 ≤ B) : w.ownsRow B2 92 3 v1 l1.length (fvs l1) := by
  rcases h with ⟨rfl, rfl⟩ | h
  · exact k
  · exact owns_base h hB
end
def RetN (w : World) (v : Value) (l : List Fil) (r : Dsk × Int) (e : Ending) (w' : World) : Prop := ∃ v', e = .returned (.tuple #[.agg #[v', .int .i64 r.1.fuse], .int .i64 r.2]) ∧ rdF w' v' r.1.files ∧ Below w.heap.size w w' ∧ NewF w.heap.size w' v v' l r.1.files
theorem RetN.d {w w' : World} {v : Value} {l : List Fil} {r : Dsk × Int} {e : Ending} (h : RetN w v l r e w') : RetD w r e w' := by
  obtain ⟨v', h1, h2, h3, _⟩ := h
  exact ⟨v', h1, h2, h3⟩
/-- What a closure upon a disk of its own memory does. -/
def CloOk (g : FuncId) (caps : Array Value) (w0 : World) (l : List Fil) (r : List Fil × Int) : Prop :=
  ∀ (W : World) (B gb : Nat) (v : Value) (fu : Int), Below w0.heap.size w0 W → w0.heap.size ≤ B → B ≤ W.heap.size → B ≤ gb → W.heap[gb]? = some (.cells #[v, .int .i64 fu] 26 (0, 0)) → W.ownsRow B 92 3 v l.length (fvs l) →
    Calls Tryd.prog g (#[.pointer (some ⟨gb, 0, none⟩)] ++ caps) W fun e W' => e = .returned (.int .i64 r.2) ∧ Below B W W' ∧
      (r.2 = 0 → ∃ v', W'.heap[gb]? = some (.cells #[v', .int .i64 fu] 26 (0, 0)) ∧ W'.ownsRow B 92 3 v' r.1.length (fvs r.1))
theorem step_1 {d : Dsk} {op : List Fil → List Fil × Int} (h : ¬ GoodL namedD d.files) : stepD namedD d op = (d, 3) := by unfold stepD; rw [if_pos h]
theorem step_2 {d : Dsk} {op : List Fil → List Fil × Int} (h : GoodL namedD d.files) (h2 : d.fuse = 0) : stepD namedD d op = (d, 12) := by unfold stepD; rw [if_neg (fun k => k h), if_pos h2]
theorem step_3 {d : Dsk} {op : List Fil → List Fil × Int} (h : GoodL namedD d.files) (h2 : d.fuse ≠ 0) (h3 : (op d.files).2 ≠ 0) : stepD namedD d op = (d, (op d.files).2) := by unfold stepD; rw [if_neg (fun k => k h), if_neg h2, if_pos h3]
theorem step_4 {d : Dsk} {op : List Fil → List Fil × Int} (h : GoodL namedD d.files) (h2 : d.fuse ≠ 0) (h3 : (op d.files).2 = 0) : stepD namedD d op = (⟨(op d.files).1, if 0 < d.fuse then d.fuse - 1 else d.fuse⟩, 0) := by unfold stepD; rw [if_neg (fun k => k h), if_neg h2, if_neg (fun k => k h3)]
set_option maxRecDepth 100000 in
set_option maxHeartbeats 3200000 in
theorem step_anyN (l : List Fil) (fuse : Int) (hfu : -9223372036854775808 ≤ fuse ∧ fuse ≤ 9223372036854775807) (op : List Fil → List Fil × Int) (v : Value) (w : World) (hr : rdF w v l) (g : FuncId) (caps : Array Value) (eg : ∀ args w, (callFunc g args).run Tryd.prog w = .ok (.enter g args) w)
    (hclo : GoodL namedD l → CloOk g caps w l (op l)) :
    Calls Tryd.prog 53 #[.agg #[v, .int .i64 fuse], .func (.func g) #[] caps] w (RetN w v l (stepD namedD ⟨l, fuse⟩ op)) := by
  obtain ⟨r, hr0⟩ : ∃ r, r = stepD namedD ⟨l, fuse⟩ op := ⟨_, rfl⟩
  rw [← hr0]
  obtain ⟨ao, cp, hv⟩ := rd_form hr
  subst hv
  have HRR := Lib.hid hr0
  have HR := Lib.hid hr
  have HCL := Lib.hid hclo
  obtain ⟨W, hW⟩ : ∃ W, (w.alloc (.cells #[.slice ao l.length cp, .int .i64 fuse] 26)).alloc (.cells #[.slice none 0 0, .int .i64 0] 26) = W := ⟨_, rfl⟩
  have hbW : Below w.heap.size w W := by rw [← hW]; exact ((Below.refl _ _).alloc (Nat.le_refl _) _).alloc (by simp) _
  have g0 : W.heap[w.heap.size]? = some (.cells #[.slice ao l.length cp, .int .i64 fuse] 26 (0, 0)) := by rw [← hW]; exact (Below.heap_alloc _ _ _ (by simp)).trans (heap_alloc_new _ _)
  have g1 : W.heap[w.heap.size + 1]? = some (.cells #[.slice none 0 0, .int .i64 0] 26 (0, 0)) := by rw [← hW]; have := heap_alloc_new (w.alloc (.cells #[.slice ao l.length cp, .int .i64 fuse] 26)) (.cells #[.slice none 0 0, .int .i64 0] 26); simpa using this
  have HBW := Lib.hid hbW
  have HSZ := Lib.hid (show w.heap.size + 2 ≤ W.heap.size by rw [← hW]; simp)
  have HG0 := Lib.hid (fun w' (h : Below W.heap.size W w') => blk_below g0 h)
  have HG1 := Lib.hid (fun w' (h : Below W.heap.size W w') => blk_below g1 h)
  have HGD := Lib.hid (goodD_any l _ fuse W (hr.below hbW))
  obtain ⟨c0, c1, z0, z1⟩ := cell_of_two g0
  clear hr hclo hr0 hbW g0 g1
  go_enter Tryd.func53, Tryd.ntmps53
  go_wp2_with fail
  (with_reducible refine HGD.out.mono ?_)
  rintro e w1 ⟨rfl, hb⟩
  have HB1 := Lib.hid hb
  clear hb HGD c0 c1 z0 z1 hW
  obtain ⟨c0, c1, z0, z1⟩ := cell_of_two (HG0.out _ HB1.out)
  obtain ⟨d0, d1, y0, y1⟩ := cell_of_two (HG1.out _ HB1.out)
  by_cases hgood : GoodL namedD l
  · rw [goodB_true hgood]
    by_cases hz : fuse = 0
    · have hr1 := HRR.out.trans (step_2 (d := ⟨l, fuse⟩) hgood hz)
      subst hr1
      subst hz
      clear hgood
      go_wp2_with fail
      have hT := two_setCell1 (u := .int .i64 (0)) (two_setCell0 (u := .slice ao l.length cp) (HG1.out _ HB1.out))
      obtain ⟨e0, e1, _, _⟩ := cell_of_two hT
      refine bodyPost_ret (v := .tuple #[.agg #[.slice ao l.length cp, .int .i64 (0)], .int .i64 (12)]) ?_ rfl ⟨.slice ao l.length cp, rfl, HR.out.below (set2_below (HBW.out.trans (HB1.out.mono HBW.out.size)) (Nat.le_succ _) _ _), set2_below (HBW.out.trans (HB1.out.mono HBW.out.size)) (Nat.le_succ _) _ _, .inl ⟨rfl, rfl⟩⟩
      simp [results, Tryd.f53, go_sem, e0, e1]
    · have HGOOD := Lib.hid hgood
      have HZ := Lib.hid hz
      have HL48 := Lib.hid (show l.length * 48 ≤ 140737488355328 by have := hgood.len; omega)
      have HCO := Lib.hid (HCL.out hgood)
      have hz0 : (fuse == 0) = false := beq_eq_false_iff_ne.2 hz
      clear hgood HCL
      go_wp2_with fail
      refine Twin.wp_region_order ((.q 0 (.q 1 (.q 3 (.q 4 (.l2 2 6 (.q 5 (.l 6 (.l 7 .nil))) (.l 2 (.q 5 (.l 7 .nil)))))))) ) (fun w' => w'.cell? ⟨w.heap.size, 0, none⟩ = some (.slice ao l.length cp) ∧ w'.cell? ⟨w.heap.size, 1, none⟩ = some (.int .i64 fuse)) (by kernel_rfl) (by kernel_rfl) rfl (by kernel_rfl) (by intro _ _ d _ _ h; cases d <;> exact h) (⟨c0, c1⟩) ?_; simp only [Twin.Ord.opers, List.getElem?_toArray, List.getElem?_cons_zero, List.getElem?_cons_succ, Option.getD_some]
      repeat (first | (refine Twin.ro_q (by rfl) (v := ?_) ?_ ?_; rotate_left; (focus (intro w' hSw; (try dsimp only at hSw); go_simp; try with_reducible rfl)); simp only [Act.put, List.setIfInBounds_toArray, List.set_cons_zero, List.set_cons_succ]) | (refine Twin.ro_skip (by rfl) ?_; simp only [Act.put, List.setIfInBounds_toArray, List.set_cons_zero, List.set_cons_succ]))
      refine Twin.ro_two ?_ ?_
      · skip
        (refine Twin.ro_loud (by rfl) (fun K hK => ?_); go_simp)
        (with_reducible refine (clone_any l _ _ (HR.out.below (HBW.out.trans (HB1.out.drew.mono HBW.out.size))) HL48.out).mono ?_)
        rintro e w2 ⟨cv, rfl, hown, hb2⟩
        have HB2 := Lib.hid (HB1.out.drew.trans (hb2.mono HB1.out.drew.size))
        clear hb2
        have hcv := rd_form (rdRow_of_owns hown)
        obtain ⟨ao2, cp2, rfl⟩ := hcv
        obtain ⟨c0, c1, z0, z1⟩ := cell_of_two (HG0.out _ HB2.out)
        (refine hK.out _ _ (fun w' => w'.cell? ⟨w.heap.size, 0, none⟩ = some (.slice ao l.length cp) ∧ w'.cell? ⟨w.heap.size, 1, none⟩ = some (.int .i64 fuse)) (.inl fun _ h => h) (⟨c0, c1⟩) ?_; clear hK K; try simp only [Act.put, List.setIfInBounds_toArray, List.set_cons_zero, List.set_cons_succ])
        repeat (first | (refine Twin.ro_q (by rfl) (v := ?_) ?_ ?_; rotate_left; (focus (intro w' hSw; (try dsimp only at hSw); go_simp; try with_reducible rfl)); simp only [Act.put, List.setIfInBounds_toArray, List.set_cons_zero, List.set_cons_succ]) | (refine Twin.ro_skip (by rfl) ?_; simp only [Act.put, List.setIfInBounds_toArray, List.set_cons_zero, List.set_cons_succ]))
        (refine Twin.ro_loud (by rfl) (fun K hK => ?_); go_simp)
        have hb3 := HB2.out.alloc HB2.out.size (.cells #[.slice none 0 0, .int .i64 0] 26)
        obtain ⟨c0, c1, z0, z1⟩ := cell_of_two (HG0.out _ hb3)
        (refine hK.out _ _ (fun w' => w'.cell? ⟨w.heap.size, 0, none⟩ = some (.slice ao l.length cp) ∧ w'.cell? ⟨w.heap.size, 1, none⟩ = some (.int .i64 fuse)) (.inl fun _ h => h) (⟨c0, c1⟩) ?_; clear hK K; try simp only [Act.put, List.setIfInBounds_toArray, List.set_cons_zero, List.set_cons_succ])
        repeat (first | (refine Twin.ro_q (by rfl) (v := ?_) ?_ ?_; rotate_left; (focus (intro w' hSw; (try dsimp only at hSw); go_simp; try with_reducible rfl)); simp only [Act.put, List.setIfInBounds_toArray, List.set_cons_zero, List.set_cons_succ]) | (refine Twin.ro_skip (by rfl) ?_; simp only [Act.put, List.setIfInBounds_toArray, List.set_cons_zero, List.set_cons_succ]))
        (refine Twin.ro_loud (by rfl) (fun K hK => ?_); go_simp)
        have hG : (w2.alloc (.cells #[.slice ao2 l.length cp2, .int .i64 fuse] 26)).heap[w2.heap.size]? = some (.cells #[.slice ao2 l.length cp2, .int .i64 fuse] 26 (0, 0)) := heap_alloc_new _ _
        have hO : (w2.alloc (.cells #[.slice ao2 l.length cp2, .int .i64 fuse] 26)).ownsRow W.heap.size 92 3 (.slice ao2 l.length cp2) l.length (fvs l) := (owns_base hown HB1.out.size).alloc _
        have HN := Lib.hid (show (Value.slice ao2 l.length cp2).ownBlock ≠ some (w2.heap.size) from fun e => by have := (hown.lt _ e).2; omega)
        have hB5 : Below W.heap.size W (w2.alloc (.cells #[.slice ao2 l.length cp2, .int .i64 fuse] 26)) := HB2.out.alloc HB2.out.size _
        have HGE := Lib.hid (show W.heap.size ≤ w2.heap.size from HB2.out.size)
        obtain ⟨w5, hw5⟩ : ∃ w5, w2.alloc (.cells #[.slice ao2 l.length cp2, .int .i64 fuse] 26) = w5 := ⟨_, rfl⟩
        rw [hw5] at hG hO hB5
        have HO := Lib.hid hO
        have HB5 := Lib.hid hB5
        have HG := Lib.hid hG
        clear hO hB5 hown c0 c1 z0 z1 d0 d1 y0 y1
        (refine hK.out _ _ (fun _ => True) (.inr (by kernel_rfl)) trivial ?_; clear hK K; try simp only [Act.put, List.setIfInBounds_toArray, List.set_cons_zero, List.set_cons_succ])
        refine Twin.ro_nil ?_
        rw [hw5]
        clear hw5
        obtain ⟨c0, c1, z0, z1⟩ := cell_of_two (HG0.out _ HB5.out)
        obtain ⟨d0, d1, y0, y1⟩ := cell_of_two (HG1.out _ HB5.out)
        obtain ⟨e0, e1, x0, x1⟩ := cell_of_two hG
        clear hG
        by_cases hp : 0 < fuse
        · have hpb : decide (0 < fuse) = true := decide_eq_true hp
          have hw : IntKind.i64.wrap (fuse - 1) = fuse - 1 := by rw [IntKind.wrap_i64]; omega
          have HP := Lib.hid hp
          go_wp2_with fail
          have HB6 := Lib.hid (show Below W.heap.size W (w5.setCell ⟨w2.heap.size, 1, none⟩ (.int .i64 (fuse - 1))) from HB5.out.setCell (p := ⟨w2.heap.size, 1, none⟩) HGE.out _)
          have hcall := HCO.out (w5.setCell ⟨w2.heap.size, 1, none⟩ (.int .i64 (fuse - 1))) W.heap.size (w2.heap.size) (.slice ao2 l.length cp2) (fuse - 1) (HBW.out.trans (HB6.out.mono HBW.out.size)) HBW.out.size HB6.out.size HGE.out (two_setCell1 HG.out) (owns_setCell HO.out HN.out _)
          (with_reducible refine hcall.mono ?_)
          rintro e w7 ⟨rfl, hu, hok⟩
          have HB7 := Lib.hid (HB6.out.trans hu)
          clear hcall hu c0 c1 z0 z1 d0 d1 y0 y1 e0 e1 x0 x1
          obtain ⟨c0, c1, z0, z1⟩ := cell_of_two (HG0.out _ HB7.out)
          obtain ⟨d0, d1, y0, y1⟩ := cell_of_two (HG1.out _ HB7.out)
          obtain ⟨en, hen⟩ : ∃ en, en = (op l).2 := ⟨_, rfl⟩
          rw [← hen] at hok ⊢
          by_cases he : en = 0
          · obtain ⟨v', hG7, hO7⟩ := hok he
            have hr4 := HRR.out.trans (step_4 (d := ⟨l, fuse⟩) HGOOD.out HZ.out (hen.symm.trans he))
            simp only [if_pos (show 0 < fuse by have := HP.out; omega)] at hr4
            obtain ⟨l', hl'⟩ : ∃ l', l' = (op l).1 := ⟨_, rfl⟩
            rw [← hl'] at hO7 hr4
            subst hr4
            subst he
            obtain ⟨ao3, cp3, rfl⟩ := rd_form (rdRow_of_owns hO7)
            obtain ⟨e0, e1, x0, x1⟩ := cell_of_two hG7
            have HO7 := Lib.hid hO7
            clear hG7 hO7 hl' hen hok
            go_wp2_with fail
            have hT := two_setCell1 (u := .int .i64 (fuse - 1)) (two_setCell0 (u := .slice ao3 l'.length cp3) (HG1.out _ HB7.out))
            obtain ⟨e0, e1, _, _⟩ := cell_of_two hT
            refine bodyPost_ret (v := .tuple #[.agg #[.slice ao3 l'.length cp3, .int .i64 (fuse - 1)], .int .i64 (0)]) ?_ rfl ⟨.slice ao3 l'.length cp3, rfl, rdF_owns (owns_setCell (owns_setCell HO7.out (owns_ne (e := 92) (t := 26) HO7.out (HG1.out _ HB7.out) (by decide)) _) (owns_ne (e := 92) (t := 26) HO7.out (HG1.out _ HB7.out) (by decide)) _), set2_below (HBW.out.trans (HB7.out.mono HBW.out.size)) (Nat.le_succ _) _ _, .inr (owns_base (owns_setCell (owns_setCell HO7.out (owns_ne (e := 92) (t := 26) HO7.out (HG1.out _ HB7.out) (by decide)) _) (owns_ne (e := 92) (t := 26) HO7.out (HG1.out _ HB7.out) (by decide)) _) HBW.out.size)⟩
            simp [results, Tryd.f53, go_sem, e0, e1]
          · have hr3 := HRR.out.trans (step_3 (d := ⟨l, fuse⟩) HGOOD.out HZ.out (fun k => he (hen.trans k)))
            rw [← hen] at hr3
            subst hr3
            have hn1 : (en == 0) = false := beq_eq_false_iff_ne.2 he
            have hn2 : (en != 0) = true := by rw [bne, hn1]; rfl
            clear hok hen he
            go_wp2_with fail
            have hT := two_setCell1 (u := .int .i64 (fuse)) (two_setCell0 (u := .slice ao l.length cp) (HG1.out _ HB7.out))
            obtain ⟨e0, e1, _, _⟩ := cell_of_two hT
            refine bodyPost_ret (v := .tuple #[.agg #[.slice ao l.length cp, .int .i64 (fuse)], .int .i64 (en)]) ?_ rfl ⟨.slice ao l.length cp, rfl, HR.out.below (set2_below (HBW.out.trans (HB7.out.mono HBW.out.size)) (Nat.le_succ _) _ _), set2_below (HBW.out.trans (HB7.out.mono HBW.out.size)) (Nat.le_succ _) _ _, .inl ⟨rfl, rfl⟩⟩
            simp [results, Tryd.f53, go_sem, e0, e1]
        · have hpb : decide (0 < fuse) = false := decide_eq_false hp
          have HP := Lib.hid hp
          go_wp2_with fail
          have HB6 := Lib.hid (show Below W.heap.size W (w5) from HB5.out)
          have hcall := HCO.out (w5) W.heap.size (w2.heap.size) (.slice ao2 l.length cp2) (fuse) (HBW.out.trans (HB6.out.mono HBW.out.size)) HBW.out.size HB6.out.size HGE.out (HG.out) (HO.out)
          (with_reducible refine hcall.mono ?_)
          rintro e w7 ⟨rfl, hu, hok⟩
          have HB7 := Lib.hid (HB6.out.trans hu)
          clear hcall hu c0 c1 z0 z1 d0 d1 y0 y1 e0 e1 x0 x1
          obtain ⟨c0, c1, z0, z1⟩ := cell_of_two (HG0.out _ HB7.out)
          obtain ⟨d0, d1, y0, y1⟩ := cell_of_two (HG1.out _ HB7.out)
          obtain ⟨en, hen⟩ : ∃ en, en = (op l).2 := ⟨_, rfl⟩
          rw [← hen] at hok ⊢
          by_cases he : en = 0
          · obtain ⟨v', hG7, hO7⟩ := hok he
            have hr4 := HRR.out.trans (step_4 (d := ⟨l, fuse⟩) HGOOD.out HZ.out (hen.symm.trans he))
            simp only [if_neg (show ¬ 0 < fuse by have := HP.out; omega)] at hr4
            obtain ⟨l', hl'⟩ : ∃ l', l' = (op l).1 := ⟨_, rfl⟩
            rw [← hl'] at hO7 hr4
            subst hr4
            subst he
            obtain ⟨ao3, cp3, rfl⟩ := rd_form (rdRow_of_owns hO7)
            obtain ⟨e0, e1, x0, x1⟩ := cell_of_two hG7
            have HO7 := Lib.hid hO7
            clear hG7 hO7 hl' hen hok
            go_wp2_with fail
            have hT := two_setCell1 (u := .int .i64 (fuse)) (two_setCell0 (u := .slice ao3 l'.length cp3) (HG1.out _ HB7.out))
            obtain ⟨e0, e1, _, _⟩ := cell_of_two hT
            refine bodyPost_ret (v := .tuple #[.agg #[.slice ao3 l'.length cp3, .int .i64 (fuse)], .int .i64 (0)]) ?_ rfl ⟨.slice ao3 l'.length cp3, rfl, rdF_owns (owns_setCell (owns_setCell HO7.out (owns_ne (e := 92) (t := 26) HO7.out (HG1.out _ HB7.out) (by decide)) _) (owns_ne (e := 92) (t := 26) HO7.out (HG1.out _ HB7.out) (by decide)) _), set2_below (HBW.out.trans (HB7.out.mono HBW.out.size)) (Nat.le_succ _) _ _, .inr (owns_base (owns_setCell (owns_setCell HO7.out (owns_ne (e := 92) (t := 26) HO7.out (HG1.out _ HB7.out) (by decide)) _) (owns_ne (e := 92) (t := 26) HO7.out (HG1.out _ HB7.out) (by decide)) _) HBW.out.size)⟩
            simp [results, Tryd.f53, go_sem, e0, e1]
          · have hr3 := HRR.out.trans (step_3 (d := ⟨l, fuse⟩) HGOOD.out HZ.out (fun k => he (hen.trans k)))
            rw [← hen] at hr3
            subst hr3
            have hn1 : (en == 0) = false := beq_eq_false_iff_ne.2 he
            have hn2 : (en != 0) = true := by rw [bne, hn1]; rfl
            clear hok hen he
            go_wp2_with fail
            have hT := two_setCell1 (u := .int .i64 (fuse)) (two_setCell0 (u := .slice ao l.length cp) (HG1.out _ HB7.out))
            obtain ⟨e0, e1, _, _⟩ := cell_of_two hT
            refine bodyPost_ret (v := .tuple #[.agg #[.slice ao l.length cp, .int .i64 (fuse)], .int .i64 (en)]) ?_ rfl ⟨.slice ao l.length cp, rfl, HR.out.below (set2_below (HBW.out.trans (HB7.out.mono HBW.out.size)) (Nat.le_succ _) _ _), set2_below (HBW.out.trans (HB7.out.mono HBW.out.size)) (Nat.le_succ _) _ _, .inl ⟨rfl, rfl⟩⟩
            simp [results, Tryd.f53, go_sem, e0, e1]
      · skip
        (refine Twin.ro_loud (by rfl) (fun K hK => ?_); go_simp)
        have hb2 := (HB1.out.alloc HB1.out.size (.cells #[.slice none 0 0, .int .i64 0] 26)).drew
        obtain ⟨c0, c1, z0, z1⟩ := cell_of_two (HG0.out _ hb2)
        (refine hK.out _ _ (fun w' => w'.cell? ⟨w.heap.size, 0, none⟩ = some (.slice ao l.length cp) ∧ w'.cell? ⟨w.heap.size, 1, none⟩ = some (.int .i64 fuse)) (.inl fun _ h => h) (⟨c0, c1⟩) ?_; clear hK K; try simp only [Act.put, List.setIfInBounds_toArray, List.set_cons_zero, List.set_cons_succ])
        (refine Twin.ro_loud (by rfl) (fun K hK => ?_); go_simp)
        have HBA := Lib.hid hb2
        clear hb2
        (with_reducible refine (clone_any l _ _ (HR.out.below (HBW.out.trans (HBA.out.mono HBW.out.size))) HL48.out).mono ?_)
        rintro e w2 ⟨cv, rfl, hown, hb2⟩
        have HB2 := Lib.hid (HBA.out.trans (hb2.mono HBA.out.size))
        have hz2 := blk_below (w := (w1.alloc (.cells #[.slice none 0 0, .int .i64 0] 26)).drew) (heap_alloc_new w1 (.cells #[.slice none 0 0, .int .i64 0] 26)) hb2
        clear hb2
        have hcv := rd_form (rdRow_of_owns hown)
        obtain ⟨ao2, cp2, rfl⟩ := hcv
        obtain ⟨c0, c1, z0, z1⟩ := cell_of_two (HG0.out _ HB2.out)
        obtain ⟨q0, q1, q2, q3⟩ := cell_of_two hz2
        (refine hK.out _ _ (fun w' => w'.cell? ⟨w.heap.size, 0, none⟩ = some (.slice ao l.length cp) ∧ w'.cell? ⟨w.heap.size, 1, none⟩ = some (.int .i64 fuse)) (.inl fun _ h => h) (⟨c0, c1⟩) ?_; clear hK K; try simp only [Act.put, List.setIfInBounds_toArray, List.set_cons_zero, List.set_cons_succ])
        repeat (first | (refine Twin.ro_q (by rfl) (v := ?_) ?_ ?_; rotate_left; (focus (intro w' hSw; (try dsimp only at hSw); go_simp; try with_reducible rfl)); simp only [Act.put, List.setIfInBounds_toArray, List.set_cons_zero, List.set_cons_succ]) | (refine Twin.ro_skip (by rfl) ?_; simp only [Act.put, List.setIfInBounds_toArray, List.set_cons_zero, List.set_cons_succ]))
        (refine Twin.ro_loud (by rfl) (fun K hK => ?_); go_simp)
        have hG : ((w2.setCell ⟨w1.heap.size, 0, none⟩ (.slice ao2 l.length cp2)).setCell ⟨w1.heap.size, 1, none⟩ (.int .i64 fuse)).heap[w1.heap.size]? = some (.cells #[.slice ao2 l.length cp2, .int .i64 fuse] 26 (0, 0)) := two_setCell1 (two_setCell0 hz2)
        have hO : ((w2.setCell ⟨w1.heap.size, 0, none⟩ (.slice ao2 l.length cp2)).setCell ⟨w1.heap.size, 1, none⟩ (.int .i64 fuse)).ownsRow W.heap.size 92 3 (.slice ao2 l.length cp2) l.length (fvs l) := owns_setCell (owns_setCell (owns_base hown HBA.out.size) (owns_ne (e := 92) (t := 26) hown hz2 (by decide)) _) (owns_ne (e := 92) (t := 26) hown hz2 (by decide)) _
        have HN := Lib.hid (show (Value.slice ao2 l.length cp2).ownBlock ≠ some (w1.heap.size) from owns_ne (e := 92) (t := 26) hown hz2 (by decide))
        have hB5 : Below W.heap.size W ((w2.setCell ⟨w1.heap.size, 0, none⟩ (.slice ao2 l.length cp2)).setCell ⟨w1.heap.size, 1, none⟩ (.int .i64 fuse)) := (HB2.out.setCell (p := ⟨w1.heap.size, 0, none⟩) HB1.out.size _).setCell (p := ⟨w1.heap.size, 1, none⟩) HB1.out.size _
        have HGE := Lib.hid (show W.heap.size ≤ w1.heap.size from HB1.out.size)
        obtain ⟨w5, hw5⟩ : ∃ w5, (w2.setCell ⟨w1.heap.size, 0, none⟩ (.slice ao2 l.length cp2)).setCell ⟨w1.heap.size, 1, none⟩ (.int .i64 fuse) = w5 := ⟨_, rfl⟩
        rw [hw5] at hG hO hB5
        have HO := Lib.hid hO
        have HB5 := Lib.hid hB5
        have HG := Lib.hid hG
        clear hO hB5 hown c0 c1 z0 z1 d0 d1 y0 y1
        (refine hK.out _ _ (fun _ => True) (.inr (by kernel_rfl)) trivial ?_; clear hK K; try simp only [Act.put, List.setIfInBounds_toArray, List.set_cons_zero, List.set_cons_succ])
        refine Twin.ro_nil ?_
        rw [hw5]
        clear hw5
        obtain ⟨c0, c1, z0, z1⟩ := cell_of_two (HG0.out _ HB5.out)
        obtain ⟨d0, d1, y0, y1⟩ := cell_of_two (HG1.out _ HB5.out)
        obtain ⟨e0, e1, x0, x1⟩ := cell_of_two hG
        clear hG
        by_cases hp : 0 < fuse
        · have hpb : decide (0 < fuse) = true := decide_eq_true hp
          have hw : IntKind.i64.wrap (fuse - 1) = fuse - 1 := by rw [IntKind.wrap_i64]; omega
          have HP := Lib.hid hp
          go_wp2_with fail
          have HB6 := Lib.hid (show Below W.heap.size W (w5.setCell ⟨w1.heap.size, 1, none⟩ (.int .i64 (fuse - 1))) from HB5.out.setCell (p := ⟨w1.heap.size, 1, none⟩) HGE.out _)
          have hcall := HCO.out (w5.setCell ⟨w1.heap.size, 1, none⟩ (.int .i64 (fuse - 1))) W.heap.size (w1.heap.size) (.slice ao2 l.length cp2) (fuse - 1) (HBW.out.trans (HB6.out.mono HBW.out.size)) HBW.out.size HB6.out.size HGE.out (two_setCell1 HG.out) (owns_setCell HO.out HN.out _)
          (with_reducible refine hcall.mono ?_)
          rintro e w7 ⟨rfl, hu, hok⟩
          have HB7 := Lib.hid (HB6.out.trans hu)
          clear hcall hu c0 c1 z0 z1 d0 d1 y0 y1 e0 e1 x0 x1
          obtain ⟨c0, c1, z0, z1⟩ := cell_of_two (HG0.out _ HB7.out)
          obtain ⟨d0, d1, y0, y1⟩ := cell_of_two (HG1.out _ HB7.out)
          obtain ⟨en, hen⟩ : ∃ en, en = (op l).2 := ⟨_, rfl⟩
          rw [← hen] at hok ⊢
          by_cases he : en = 0
          · obtain ⟨v', hG7, hO7⟩ := hok he
            have hr4 := HRR.out.trans (step_4 (d := ⟨l, fuse⟩) HGOOD.out HZ.out (hen.symm.trans he))
            simp only [if_pos (show 0 < fuse by have := HP.out; omega)] at hr4
            obtain ⟨l', hl'⟩ : ∃ l', l' = (op l).1 := ⟨_, rfl⟩
            rw [← hl'] at hO7 hr4
            subst hr4
            subst he
            obtain ⟨ao3, cp3, rfl⟩ := rd_form (rdRow_of_owns hO7)
            obtain ⟨e0, e1, x0, x1⟩ := cell_of_two hG7
            have HO7 := Lib.hid hO7
            clear hG7 hO7 hl' hen hok
            go_wp2_with fail
            have hT := two_setCell1 (u := .int .i64 (fuse - 1)) (two_setCell0 (u := .slice ao3 l'.length cp3) (HG1.out _ HB7.out))
            obtain ⟨e0, e1, _, _⟩ := cell_of_two hT
            refine bodyPost_ret (v := .tuple #[.agg #[.slice ao3 l'.length cp3, .int .i64 (fuse - 1)], .int .i64 (0)]) ?_ rfl ⟨.slice ao3 l'.length cp3, rfl, rdF_owns (owns_setCell (owns_setCell HO7.out (owns_ne (e := 92) (t := 26) HO7.out (HG1.out _ HB7.out) (by decide)) _) (owns_ne (e := 92) (t := 26) HO7.out (HG1.out _ HB7.out) (by decide)) _), set2_below (HBW.out.trans (HB7.out.mono HBW.out.size)) (Nat.le_succ _) _ _, .inr (owns_base (owns_setCell (owns_setCell HO7.out (owns_ne (e := 92) (t := 26) HO7.out (HG1.out _ HB7.out) (by decide)) _) (owns_ne (e := 92) (t := 26) HO7.out (HG1.out _ HB7.out) (by decide)) _) HBW.out.size)⟩
            simp [results, Tryd.f53, go_sem, e0, e1]
          · have hr3 := HRR.out.trans (step_3 (d := ⟨l, fuse⟩) HGOOD.out HZ.out (fun k => he (hen.trans k)))
            rw [← hen] at hr3
            subst hr3
            have hn1 : (en == 0) = false := beq_eq_false_iff_ne.2 he
            have hn2 : (en != 0) = true := by rw [bne, hn1]; rfl
            clear hok hen he
            go_wp2_with fail
            have hT := two_setCell1 (u := .int .i64 (fuse)) (two_setCell0 (u := .slice ao l.length cp) (HG1.out _ HB7.out))
            obtain ⟨e0, e1, _, _⟩ := cell_of_two hT
            refine bodyPost_ret (v := .tuple #[.agg #[.slice ao l.length cp, .int .i64 (fuse)], .int .i64 (en)]) ?_ rfl ⟨.slice ao l.length cp, rfl, HR.out.below (set2_below (HBW.out.trans (HB7.out.mono HBW.out.size)) (Nat.le_succ _) _ _), set2_below (HBW.out.trans (HB7.out.mono HBW.out.size)) (Nat.le_succ _) _ _, .inl ⟨rfl, rfl⟩⟩
            simp [results, Tryd.f53, go_sem, e0, e1]
        · have hpb : decide (0 < fuse) = false := decide_eq_false hp
          have HP := Lib.hid hp
          go_wp2_with fail
          have HB6 := Lib.hid (show Below W.heap.size W (w5) from HB5.out)
          have hcall := HCO.out (w5) W.heap.size (w1.heap.size) (.slice ao2 l.length cp2) (fuse) (HBW.out.trans (HB6.out.mono HBW.out.size)) HBW.out.size HB6.out.size HGE.out (HG.out) (HO.out)
          (with_reducible refine hcall.mono ?_)
          rintro e w7 ⟨rfl, hu, hok⟩
          have HB7 := Lib.hid (HB6.out.trans hu)
          clear hcall hu c0 c1 z0 z1 d0 d1 y0 y1 e0 e1 x0 x1
          obtain ⟨c0, c1, z0, z1⟩ := cell_of_two (HG0.out _ HB7.out)
          obtain ⟨d0, d1, y0, y1⟩ := cell_of_two (HG1.out _ HB7.out)
          obtain ⟨en, hen⟩ : ∃ en, en = (op l).2 := ⟨_, rfl⟩
          rw [← hen] at hok ⊢
          by_cases he : en = 0
          · obtain ⟨v', hG7, hO7⟩ := hok he
            have hr4 := HRR.out.trans (step_4 (d := ⟨l, fuse⟩) HGOOD.out HZ.out (hen.symm.trans he))
            simp only [if_neg (show ¬ 0 < fuse by have := HP.out; omega)] at hr4
            obtain ⟨l', hl'⟩ : ∃ l', l' = (op l).1 := ⟨_, rfl⟩
            rw [← hl'] at hO7 hr4
            subst hr4
            subst he
            obtain ⟨ao3, cp3, rfl⟩ := rd_form (rdRow_of_owns hO7)
            obtain ⟨e0, e1, x0, x1⟩ := cell_of_two hG7
            have HO7 := Lib.hid hO7
            clear hG7 hO7 hl' hen hok
            go_wp2_with fail
            have hT := two_setCell1 (u := .int .i64 (fuse)) (two_setCell0 (u := .slice ao3 l'.length cp3) (HG1.out _ HB7.out))
            obtain ⟨e0, e1, _, _⟩ := cell_of_two hT
            refine bodyPost_ret (v := .tuple #[.agg #[.slice ao3 l'.length cp3, .int .i64 (fuse)], .int .i64 (0)]) ?_ rfl ⟨.slice ao3 l'.length cp3, rfl, rdF_owns (owns_setCell (owns_setCell HO7.out (owns_ne (e := 92) (t := 26) HO7.out (HG1.out _ HB7.out) (by decide)) _) (owns_ne (e := 92) (t := 26) HO7.out (HG1.out _ HB7.out) (by decide)) _), set2_below (HBW.out.trans (HB7.out.mono HBW.out.size)) (Nat.le_succ _) _ _, .inr (owns_base (owns_setCell (owns_setCell HO7.out (owns_ne (e := 92) (t := 26) HO7.out (HG1.out _ HB7.out) (by decide)) _) (owns_ne (e := 92) (t := 26) HO7.out (HG1.out _ HB7.out) (by decide)) _) HBW.out.size)⟩
            simp [results, Tryd.f53, go_sem, e0, e1]
          · have hr3 := HRR.out.trans (step_3 (d := ⟨l, fuse⟩) HGOOD.out HZ.out (fun k => he (hen.trans k)))
            rw [← hen] at hr3
            subst hr3
            have hn1 : (en == 0) = false := beq_eq_false_iff_ne.2 he
            have hn2 : (en != 0) = true := by rw [bne, hn1]; rfl
            clear hok hen he
            go_wp2_with fail
            have hT := two_setCell1 (u := .int .i64 (fuse)) (two_setCell0 (u := .slice ao l.length cp) (HG1.out _ HB7.out))
            obtain ⟨e0, e1, _, _⟩ := cell_of_two hT
            refine bodyPost_ret (v := .tuple #[.agg #[.slice ao l.length cp, .int .i64 (fuse)], .int .i64 (en)]) ?_ rfl ⟨.slice ao l.length cp, rfl, HR.out.below (set2_below (HBW.out.trans (HB7.out.mono HBW.out.size)) (Nat.le_succ _) _ _), set2_below (HBW.out.trans (HB7.out.mono HBW.out.size)) (Nat.le_succ _) _ _, .inl ⟨rfl, rfl⟩⟩
            simp [results, Tryd.f53, go_sem, e0, e1]
  · rw [goodB_false hgood]
    have hr1 := HRR.out.trans (step_1 (d := ⟨l, fuse⟩) hgood)
    subst hr1
    clear hgood
    go_wp2_with fail
    have hT := two_setCell1 (u := .int .i64 (fuse)) (two_setCell0 (u := .slice ao l.length cp) (HG1.out _ HB1.out))
    obtain ⟨e0, e1, _, _⟩ := cell_of_two hT
    refine bodyPost_ret (v := .tuple #[.agg #[.slice ao l.length cp, .int .i64 (fuse)], .int .i64 (3)]) ?_ rfl ⟨.slice ao l.length cp, rfl, HR.out.below (set2_below (HBW.out.trans (HB1.out.mono HBW.out.size)) (Nat.le_succ _) _ _), set2_below (HBW.out.trans (HB1.out.mono HBW.out.size)) (Nat.le_succ _) _ _, .inl ⟨rfl, rfl⟩⟩
    simp [results, Tryd.f53, go_sem, e0, e1]
theorem step_any (l : List Fil) (fuse : Int) (hfu : -9223372036854775808 ≤ fuse ∧ fuse ≤ 9223372036854775807) (op : List Fil → List Fil × Int) (v : Value) (w : World) (hr : rdF w v l) (g : FuncId) (caps : Array Value) (eg : ∀ args w, (callFunc g args).run Tryd.prog w = .ok (.enter g args) w)
    (hclo : GoodL namedD l → CloOk g caps w l (op l)) :
    Calls Tryd.prog 53 #[.agg #[v, .int .i64 fuse], .func (.func g) #[] caps] w (RetD w (stepD namedD ⟨l, fuse⟩ op)) :=
  (step_anyN l fuse hfu op v w hr g caps eg hclo).mono (fun _ _ h => h.d)
end Go.Proofs.YtmacceamebdelaaDoor
/-! Disk5 -/
namespace Go.Proofs.YtmacceamebdelaaDoor
open Go.RowKit
set_option linter.unusedVariables false
set_option linter.unusedSimpArgs false

theorem fvs_set {l : List Fil} {k : Nat} {f : Fil} (hk : l[k]? = some f) (g : Fil) : (((fvs l).set (k * 3) (.string g.name)).set (k * 3 + 1) (.string g.safe)).set (k * 3 + 2) (.string g.tail) = fvs (l.set k g) := by
  induction l generalizing k with
  | nil => simp at hk
  | cons x l ih =>
    cases k with
    | zero => rfl
    | succ k =>
      have := ih (k := k) (by simpa using hk)
      rw [show (k + 1) * 3 = k * 3 + 1 + 1 + 1 by omega]
      show Value.string x.name :: Value.string x.safe :: Value.string x.tail :: (((fvs l).set (k * 3) _).set (k * 3 + 1) _).set (k * 3 + 2) _ = _
      rw [this]
      rfl
theorem fvs_same {l : List Fil} {k : Nat} {f : Fil} (hk : l[k]? = some f) : (fvs l).set (k * 3) (.string f.name) = fvs l ∧ (fvs l).set (k * 3 + 1) (.string f.safe) = fvs l := by
  have hl := (List.getElem?_eq_some_iff.1 hk).1
  have h := fvs_get l k hl
  rw [List.getD, hk] at h
  obtain ⟨h0, h1, _⟩ := h
  simp only [Option.getD_some] at h0 h1
  constructor
  · apply List.ext_getElem?
    intro i
    rw [List.getElem?_set]
    split
    · rename_i e; subst e
      split
      · exact h0.symm
      · rename_i hh; rw [List.getElem?_eq_none (by omega)]
    · rfl
  · apply List.ext_getElem?
    intro i
    rw [List.getElem?_set]
    split
    · rename_i e; subst e
      split
      · exact h1.symm
      · rename_i hh; rw [List.getElem?_eq_none (by omega)]
    · rfl
theorem fvs_put2 {l : List Fil} {k : Nat} {f : Fil} (hk : l[k]? = some f) (g : Fil) (hn : g.name = f.name) : ((fvs l).set (k * 3 + 1) (.string g.safe)).set (k * 3 + 2) (.string g.tail) = fvs (l.take k ++ g :: l.drop (k + 1)) := by
  have h := fvs_set hk g
  rw [hn, (fvs_same hk).1, set_parts l k g (List.getElem?_eq_some_iff.1 hk).1] at h
  exact h
theorem fvs_put1 {l : List Fil} {k : Nat} {f : Fil} (hk : l[k]? = some f) (g : Fil) (hn : g.name = f.name) (hs : g.safe = f.safe) : (fvs l).set (k * 3 + 2) (.string g.tail) = fvs (l.take k ++ g :: l.drop (k + 1)) := by
  have h := fvs_put2 hk g hn
  rw [hs, (fvs_same hk).2] at h
  exact h
theorem own_cells {w : World} {base : Nat} {l : List Fil} {g cap k : Nat} {f : Fil} (h : w.ownsRow base 92 3 (.slice (some ⟨g, 0, none⟩) l.length cap) l.length (fvs l)) (hk : l[k]? = some f) :
    w.cell? ⟨g, k * 3, none⟩ = some (.string f.name) ∧ w.cell? ⟨g, k * 3 + 1, none⟩ = some (.string f.safe) ∧ w.cell? ⟨g, k * 3 + 2, none⟩ = some (.string f.tail) ∧ (∀ i, w.frozen? ⟨g, i, none⟩ = false) := by
  have hl := (List.getElem?_eq_some_iff.1 hk).1
  have hc := fvs_get l k hl
  rw [List.getD, hk] at hc
  obtain ⟨h1, ⟨h2, _⟩ | ⟨g', cap', cur, hv, hbg, hg, hn, hm, hs, ht⟩⟩ := h
  · cases h2
  · simp only [Value.slice.injEq, Option.some.injEq, Addr.mk.injEq, and_true, true_and] at hv
    obtain ⟨rfl, rfl⟩ := hv
    exact ⟨cells_of_row hg ht _ _ hc.1, cells_of_row hg ht _ _ hc.2.1, cells_of_row hg ht _ _ hc.2.2, fun i => by simp [World.frozen?, hg]⟩

/-! Remove. -/
theorem removeO_1 {l : List Fil} {n : ByteArray} (h : fget n l = none) : removeO n l = (l, 7) := by unfold removeO; rw [h]
theorem removeO_2 {l : List Fil} {n : ByteArray} {f : Fil} (h : fget n l = some f) : removeO n l = (fdel n l, 0) := by unfold removeO; rw [h]
set_option maxRecDepth 100000 in
set_option maxHeartbeats 3200000 in
theorem removeC (w0 : World) (l : List Fil) (name : ByteArray) (nb : Nat) (hgood : GoodL namedD l) (hnb : w0.cell? ⟨nb, 0, none⟩ = some (.string name)) :
    CloOk 54 #[.pointer (some ⟨nb, 0, none⟩)] w0 l (removeO name l) := by
  intro W B gb v fu hB hwB hBW hge hG hO
  show Calls Tryd.prog _ #[.pointer (some ⟨gb, 0, none⟩), .pointer (some ⟨nb, 0, none⟩)] W _
  have hnlt := World.block_lt_of_cell? w0 _ hnb
  have n0 : W.cell? ⟨nb, 0, none⟩ = some (.string name) := (hB.cell (p := ⟨nb, 0, none⟩) hnlt).trans hnb
  have HNB := Lib.hid (fun w' (h : Below W.heap.size W w') => (h.cell (p := ⟨nb, 0, none⟩) (Nat.lt_of_lt_of_le hnlt hB.size)).trans n0)
  have HGB := Lib.hid (fun w' (h : Below W.heap.size W w') => blk_below hG h)
  have HOW := Lib.hid (fun w' (h : Below W.heap.size W w') => owns_below hO h)
  obtain ⟨ao, cp, rfl⟩ := rd_form (rdRow_of_owns hO)
  have HGD := Lib.hid hgood
  have hl := hgood.len
  have HFI := Lib.hid (find_any l name _ fu W.drew hgood.srt (rdF_owns hO) (by omega))
  obtain ⟨c0, c1, z0, z1⟩ := cell_of_two hG
  have HBW := Lib.hid hBW
  have HGE := Lib.hid hge
  obtain ⟨r, hr⟩ : ∃ r, r = removeO name l := ⟨_, rfl⟩
  rw [← hr]
  have HR := Lib.hid hr
  obtain ⟨k, hk⟩ : ∃ k, k = fidx name l := ⟨_, rfl⟩
  have HK := Lib.hid hk
  rw [← hk] at HFI
  clear hnlt hgood hr hk hwB hB hnb hBW hge
  have c0' : W.drew.cell? ⟨gb, 0, none⟩ = some (.slice ao l.length cp) := c0
  cases hg : fget name l with
  | none =>
    have hr1 := HR.out.trans (removeO_1 hg)
    subst hr1
    rw [hg] at HFI
    clear hg
    go_enter Tryd.func54, Tryd.ntmps54
    go_wp2_with fail
    refine Lone.wp_region_order [(0, false), (1, false), (2, false), (3, false), (4, true), (5, false), (6, false), (7, false), (8, false), (9, false)] (fun w' => w'.cell? ⟨gb, 0, none⟩ = some (.slice ao l.length cp) ∧ w'.cell? ⟨gb, 1, none⟩ = some (.int .i64 fu) ∧ w'.cell? ⟨nb, 0, none⟩ = some (.string name)) (by kernel_rfl) (by kernel_rfl) rfl (by kernel_rfl) (by intro _ _ d _ _ h; cases d <;> exact h) (⟨c0, c1, n0⟩) ?_; simp only [List.map_cons, List.map_nil, List.getElem?_toArray, List.getElem?_cons_zero, List.getElem?_cons_succ, Option.getD_some]
    repeat (first | (refine Lone.ro_q (by rfl) (v := ?_) ?_ ?_; rotate_left; (focus (intro w' hSw; (try dsimp only at hSw); go_simp; try with_reducible rfl)); simp only [Act.put, List.setIfInBounds_toArray, List.set_cons_zero, List.set_cons_succ]) | (refine Lone.ro_skip (by rfl) ?_; simp only [Act.put, List.setIfInBounds_toArray, List.set_cons_zero, List.set_cons_succ]))
    (refine Lone.ro_loud (by rfl) (fun K hK => ?_); go_simp)
    (with_reducible refine (HFI.out).mono ?_)
    rintro e w1 ⟨rfl, hb1⟩
    have HB1 := Lib.hid (show Below W.heap.size W w1 from (Below.refl _ W).drew.trans hb1)
    clear hb1 c0 c1 z0 z1 n0 HFI c0'
    obtain ⟨c0, c1, z0, z1⟩ := cell_of_two (HGB.out _ HB1.out)
    have n0 := HNB.out _ HB1.out
    (refine hK.out _ _ (fun w' => w'.cell? ⟨gb, 0, none⟩ = some (.slice ao l.length cp) ∧ w'.cell? ⟨gb, 1, none⟩ = some (.int .i64 fu) ∧ w'.cell? ⟨nb, 0, none⟩ = some (.string name)) (.inl fun _ h => h) (⟨c0, c1, n0⟩) ?_; clear hK K; try simp only [Act.put, List.setIfInBounds_toArray, List.set_cons_zero, List.set_cons_succ])
    repeat (first | (refine Lone.ro_q (by rfl) (v := ?_) ?_ ?_; rotate_left; (focus (intro w' hSw; (try dsimp only at hSw); go_simp; try with_reducible rfl)); simp only [Act.put, List.setIfInBounds_toArray, List.set_cons_zero, List.set_cons_succ]) | (refine Lone.ro_skip (by rfl) ?_; simp only [Act.put, List.setIfInBounds_toArray, List.set_cons_zero, List.set_cons_succ]))
    (refine Lone.ro_nil ?_; go_wp2_with fail)
    go_ret
    exact ⟨rfl, HB1.out.mono HBW.out, fun h => by cases h⟩
  | some f =>
    have hr1 := HR.out.trans (removeO_2 hg)
    subst hr1
    rw [hg] at HFI
    have HSOME := Lib.hid hg
    clear hg
    obtain ⟨h1, h2, h3, h4⟩ := at_some Fil.name HGD.out.srt HSOME.out
    rw [← show k = idxL Fil.name name l from HK.out] at h1 h2 h3 h4
    have hki : (k : Int) + 1 ≤ (l.length : Int) := by omega
    have hkw : IntKind.i64.wrap ((k : Int) + 1) = (k : Int) + 1 := by rw [IntKind.wrap_i64]; omega
    have HDE := Lib.hid (show fvs (l.take k) ++ fvs (l.drop (k + 1)) = fvs (fdel name l) by rw [← fvs_append, h4])
    have HDL := Lib.hid (show l.length - 1 = (fdel name l).length by have := len_del_some Fil.name HGD.out.srt HSOME.out; show _ = (delL Fil.name name l).length; omega)
    have HDEL := Lib.hid (fun w1 (hb : Below W.heap.size W w1) => fil_del l.length k _ (fvs l) w1 B ((k : Int) + 1) rfl h1 (HOW.out _ hb) (fvs_one l))
    clear h1 h2 h3 h4
    go_enter Tryd.func54, Tryd.ntmps54
    go_wp2_with fail
    refine Lone.wp_region_order [(0, false), (1, false), (2, false), (3, false), (4, true), (5, false), (6, false), (7, false), (8, false), (9, false)] (fun w' => w'.cell? ⟨gb, 0, none⟩ = some (.slice ao l.length cp) ∧ w'.cell? ⟨gb, 1, none⟩ = some (.int .i64 fu) ∧ w'.cell? ⟨nb, 0, none⟩ = some (.string name)) (by kernel_rfl) (by kernel_rfl) rfl (by kernel_rfl) (by intro _ _ d _ _ h; cases d <;> exact h) (⟨c0, c1, n0⟩) ?_; simp only [List.map_cons, List.map_nil, List.getElem?_toArray, List.getElem?_cons_zero, List.getElem?_cons_succ, Option.getD_some]
    repeat (first | (refine Lone.ro_q (by rfl) (v := ?_) ?_ ?_; rotate_left; (focus (intro w' hSw; (try dsimp only at hSw); go_simp; try with_reducible rfl)); simp only [Act.put, List.setIfInBounds_toArray, List.set_cons_zero, List.set_cons_succ]) | (refine Lone.ro_skip (by rfl) ?_; simp only [Act.put, List.setIfInBounds_toArray, List.set_cons_zero, List.set_cons_succ]))
    (refine Lone.ro_loud (by rfl) (fun K hK => ?_); go_simp)
    (with_reducible refine (HFI.out).mono ?_)
    rintro e w1 ⟨rfl, hb1⟩
    have HB1 := Lib.hid (show Below W.heap.size W w1 from (Below.refl _ W).drew.trans hb1)
    clear hb1 c0 c1 z0 z1 n0 HFI c0'
    obtain ⟨c0, c1, z0, z1⟩ := cell_of_two (HGB.out _ HB1.out)
    have n0 := HNB.out _ HB1.out
    (refine hK.out _ _ (fun w' => w'.cell? ⟨gb, 0, none⟩ = some (.slice ao l.length cp) ∧ w'.cell? ⟨gb, 1, none⟩ = some (.int .i64 fu) ∧ w'.cell? ⟨nb, 0, none⟩ = some (.string name)) (.inl fun _ h => h) (⟨c0, c1, n0⟩) ?_; clear hK K; try simp only [Act.put, List.setIfInBounds_toArray, List.set_cons_zero, List.set_cons_succ])
    repeat (first | (refine Lone.ro_q (by rfl) (v := ?_) ?_ ?_; rotate_left; (focus (intro w' hSw; (try dsimp only at hSw); go_simp; try with_reducible rfl)); simp only [Act.put, List.setIfInBounds_toArray, List.set_cons_zero, List.set_cons_succ]) | (refine Lone.ro_skip (by rfl) ?_; simp only [Act.put, List.setIfInBounds_toArray, List.set_cons_zero, List.set_cons_succ]))
    (refine Lone.ro_nil ?_; go_wp2_with fail)
    (with_reducible refine (HDEL.out _ HB1.out).mono ?_)
    rintro e w2 ⟨v', rfl, hO2, hU2, _⟩
    rw [show (3 : Nat) = 3 from rfl, fvs_take, fvs_drop, HDE.out, HDL.out] at hO2
    obtain ⟨ao2, cp2, rfl⟩ := rd_form (rdRow_of_owns hO2)
    have hG2 := blk_upd (HGB.out _ HB1.out) hU2 (fun e => owns_ne (e := 92) (t := 26) (HOW.out _ HB1.out) (HGB.out _ HB1.out) (by decide) e)
    have hB2 := (HB1.out.mono HBW.out).trans (hU2.below (Nat.le_trans HBW.out HB1.out.size) (fun k hk => ((HOW.out _ HB1.out).lt k hk).1))
    clear c0 c1 z0 z1 n0
    obtain ⟨c0, c1, z0, z1⟩ := cell_of_two hG2
    have HO2 := Lib.hid hO2
    have HG2 := Lib.hid hG2
    have HB2 := Lib.hid hB2
    clear hO2 hG2 hB2 hU2
    go_wp2_with fail
    go_ret
    exact ⟨rfl, HB2.out.setCell (p := ⟨gb, 0, none⟩) HGE.out _, fun _ => ⟨_, two_setCell0 HG2.out, owns_setCell HO2.out (owns_ne (e := 92) (t := 26) HO2.out HG2.out (by decide)) _⟩⟩

/-! Sync. -/
theorem syncO_1 {l : List Fil} {n : ByteArray} (h : fget n l = none) : syncO n l = (l, 7) := by unfold syncO; rw [h]
theorem syncO_2 {l : List Fil} {n : ByteArray} {f : Fil} (h : fget n l = some f) : syncO n l = (fput ⟨n, f.safe ++ f.tail, nilB⟩ l, 0) := by unfold syncO; rw [h]
set_option maxRecDepth 100000 in
set_option maxHeartbeats 3200000 in
theorem syncC (w0 : World) (l : List Fil) (name : ByteArray) (nb : Nat) (hgood : GoodL namedD l) (hnb : w0.cell? ⟨nb, 0, none⟩ = some (.string name)) :
    CloOk 58 #[.pointer (some ⟨nb, 0, none⟩)] w0 l (syncO name l) := by
  intro W B gb v fu hB hwB hBW hge hG hO
  show Calls Tryd.prog _ #[.pointer (some ⟨gb, 0, none⟩), .pointer (some ⟨nb, 0, none⟩)] W _
  have hnlt := World.block_lt_of_cell? w0 _ hnb
  have n0 : W.cell? ⟨nb, 0, none⟩ = some (.string name) := (hB.cell (p := ⟨nb, 0, none⟩) hnlt).trans hnb
  have HNB := Lib.hid (fun w' (h : Below W.heap.size W w') => (h.cell (p := ⟨nb, 0, none⟩) (Nat.lt_of_lt_of_le hnlt hB.size)).trans n0)
  have HGB := Lib.hid (fun w' (h : Below W.heap.size W w') => blk_below hG h)
  have HOW := Lib.hid (fun w' (h : Below W.heap.size W w') => owns_below hO h)
  obtain ⟨ao, cp, rfl⟩ := rd_form (rdRow_of_owns hO)
  have HGD := Lib.hid hgood
  have hl := hgood.len
  have HFI := Lib.hid (find_any l name _ fu W.drew hgood.srt (rdF_owns hO) (by omega))
  obtain ⟨c0, c1, z0, z1⟩ := cell_of_two hG
  have HBW := Lib.hid hBW
  have HGE := Lib.hid hge
  obtain ⟨r, hr⟩ : ∃ r, r = syncO name l := ⟨_, rfl⟩
  rw [← hr]
  have HR := Lib.hid hr
  obtain ⟨k, hk⟩ : ∃ k, k = fidx name l := ⟨_, rfl⟩
  have HK := Lib.hid hk
  rw [← hk] at HFI
  clear hnlt hgood hr hk hwB hB hnb hBW hge
  have c0' : W.drew.cell? ⟨gb, 0, none⟩ = some (.slice ao l.length cp) := c0
  cases hg : fget name l with
  | none =>
    have hr1 := HR.out.trans (syncO_1 hg)
    subst hr1
    rw [hg] at HFI
    clear hg
    go_enter Tryd.func58, Tryd.ntmps58
    go_wp2_with fail
    refine Lone.wp_region_order [(0, false), (1, false), (2, false), (3, false), (4, true), (5, false), (6, false), (7, false), (8, false), (9, false)] (fun w' => w'.cell? ⟨gb, 0, none⟩ = some (.slice ao l.length cp) ∧ w'.cell? ⟨gb, 1, none⟩ = some (.int .i64 fu) ∧ w'.cell? ⟨nb, 0, none⟩ = some (.string name)) (by kernel_rfl) (by kernel_rfl) rfl (by kernel_rfl) (by intro _ _ d _ _ h; cases d <;> exact h) (⟨c0, c1, n0⟩) ?_; simp only [List.map_cons, List.map_nil, List.getElem?_toArray, List.getElem?_cons_zero, List.getElem?_cons_succ, Option.getD_some]
    repeat (first | (refine Lone.ro_q (by rfl) (v := ?_) ?_ ?_; rotate_left; (focus (intro w' hSw; (try dsimp only at hSw); go_simp; try with_reducible rfl)); simp only [Act.put, List.setIfInBounds_toArray, List.set_cons_zero, List.set_cons_succ]) | (refine Lone.ro_skip (by rfl) ?_; simp only [Act.put, List.setIfInBounds_toArray, List.set_cons_zero, List.set_cons_succ]))
    (refine Lone.ro_loud (by rfl) (fun K hK => ?_); go_simp)
    (with_reducible refine (HFI.out).mono ?_)
    rintro e w1 ⟨rfl, hb1⟩
    have HB1 := Lib.hid (show Below W.heap.size W w1 from (Below.refl _ W).drew.trans hb1)
    clear hb1 c0 c1 z0 z1 n0 HFI c0'
    obtain ⟨c0, c1, z0, z1⟩ := cell_of_two (HGB.out _ HB1.out)
    have n0 := HNB.out _ HB1.out
    (refine hK.out _ _ (fun w' => w'.cell? ⟨gb, 0, none⟩ = some (.slice ao l.length cp) ∧ w'.cell? ⟨gb, 1, none⟩ = some (.int .i64 fu) ∧ w'.cell? ⟨nb, 0, none⟩ = some (.string name)) (.inl fun _ h => h) (⟨c0, c1, n0⟩) ?_; clear hK K; try simp only [Act.put, List.setIfInBounds_toArray, List.set_cons_zero, List.set_cons_succ])
    repeat (first | (refine Lone.ro_q (by rfl) (v := ?_) ?_ ?_; rotate_left; (focus (intro w' hSw; (try dsimp only at hSw); go_simp; try with_reducible rfl)); simp only [Act.put, List.setIfInBounds_toArray, List.set_cons_zero, List.set_cons_succ]) | (refine Lone.ro_skip (by rfl) ?_; simp only [Act.put, List.setIfInBounds_toArray, List.set_cons_zero, List.set_cons_succ]))
    (refine Lone.ro_nil ?_; go_wp2_with fail)
    go_ret
    exact ⟨rfl, HB1.out.mono HBW.out, fun h => by cases h⟩
  | some f =>
    have hr1 := HR.out.trans (syncO_2 hg)
    subst hr1
    rw [hg] at HFI
    have HSOME := Lib.hid hg
    clear hg
    obtain ⟨h1, h2, h3, h4⟩ := at_some Fil.name HGD.out.srt HSOME.out
    rw [← show k = idxL Fil.name name l from HK.out] at h1 h2 h3 h4
    obtain ⟨g, cp', hv, hcp⟩ := own_form (HOW.out _ (Below.refl _ W)) (by omega)
    simp only [Value.slice.injEq, true_and] at hv
    obtain ⟨rfl, rfl⟩ := hv
    have hki : (k : Int) < (l.length : Int) := by omega
    have H2 := Lib.hid h2
    have H3 := Lib.hid h3
    clear h2 h3 h4
    go_enter Tryd.func58, Tryd.ntmps58
    go_wp2_with fail
    refine Lone.wp_region_order [(0, false), (1, false), (2, false), (3, false), (4, true), (5, false), (6, false), (7, false), (8, false), (9, false)] (fun w' => w'.cell? ⟨gb, 0, none⟩ = some (.slice (some ⟨g, 0, none⟩) l.length cp) ∧ w'.cell? ⟨gb, 1, none⟩ = some (.int .i64 fu) ∧ w'.cell? ⟨nb, 0, none⟩ = some (.string name)) (by kernel_rfl) (by kernel_rfl) rfl (by kernel_rfl) (by intro _ _ d _ _ h; cases d <;> exact h) (⟨c0, c1, n0⟩) ?_; simp only [List.map_cons, List.map_nil, List.getElem?_toArray, List.getElem?_cons_zero, List.getElem?_cons_succ, Option.getD_some]
    repeat (first | (refine Lone.ro_q (by rfl) (v := ?_) ?_ ?_; rotate_left; (focus (intro w' hSw; (try dsimp only at hSw); go_simp; try with_reducible rfl)); simp only [Act.put, List.setIfInBounds_toArray, List.set_cons_zero, List.set_cons_succ]) | (refine Lone.ro_skip (by rfl) ?_; simp only [Act.put, List.setIfInBounds_toArray, List.set_cons_zero, List.set_cons_succ]))
    (refine Lone.ro_loud (by rfl) (fun K hK => ?_); go_simp)
    (with_reducible refine (HFI.out).mono ?_)
    rintro e w1 ⟨rfl, hb1⟩
    have HB1 := Lib.hid (show Below W.heap.size W w1 from (Below.refl _ W).drew.trans hb1)
    clear hb1 c0 c1 z0 z1 n0 HFI c0'
    obtain ⟨c0, c1, z0, z1⟩ := cell_of_two (HGB.out _ HB1.out)
    have n0 := HNB.out _ HB1.out
    (refine hK.out _ _ (fun w' => w'.cell? ⟨gb, 0, none⟩ = some (.slice (some ⟨g, 0, none⟩) l.length cp) ∧ w'.cell? ⟨gb, 1, none⟩ = some (.int .i64 fu) ∧ w'.cell? ⟨nb, 0, none⟩ = some (.string name)) (.inl fun _ h => h) (⟨c0, c1, n0⟩) ?_; clear hK K; try simp only [Act.put, List.setIfInBounds_toArray, List.set_cons_zero, List.set_cons_succ])
    repeat (first | (refine Lone.ro_q (by rfl) (v := ?_) ?_ ?_; rotate_left; (focus (intro w' hSw; (try dsimp only at hSw); go_simp; try with_reducible rfl)); simp only [Act.put, List.setIfInBounds_toArray, List.set_cons_zero, List.set_cons_succ]) | (refine Lone.ro_skip (by rfl) ?_; simp only [Act.put, List.setIfInBounds_toArray, List.set_cons_zero, List.set_cons_succ]))
    (refine Lone.ro_nil ?_; go_wp2_with fail)
    have HO1 := Lib.hid (HOW.out _ HB1.out)
    obtain ⟨s0, s1, s2, sf⟩ := own_cells HO1.out H2.out
    have sz := HGD.out.size f (List.mem_of_getElem? H2.out)
    have sf1 := sf (k * 3 + 1)
    have sf2 := sf (k * 3 + 2)
    go_region
    have HUP := Lib.hid (((Upd.refl (· = g) w1).setCell (a := ⟨g, k * 3 + 1, none⟩) (.inl rfl) (.string (f.safe ++ f.tail))).setCell (a := ⟨g, k * 3 + 2, none⟩) (.inl rfl) (.string ⟨#[]⟩)).drew
    have hgB : B ≤ g := (HO1.out.lt g rfl).1
    have HGN := Lib.hid (show gb ≠ g from fun e => owns_ne (e := 92) (t := 26) HO1.out (HGB.out _ HB1.out) (by decide) (by rw [e]; rfl))
    have HOF := Lib.hid (own_set (own_set HO1.out (k * 3 + 1) (.string (f.safe ++ f.tail))) (k * 3 + 2) (.string ⟨#[]⟩)).drew
    clear HO1 s0 s1 s2 sf sf1 sf2 sz
    go_wp2_with fail
    go_ret
    refine ⟨rfl, (HB1.out.mono HBW.out).trans (HUP.out.below (Nat.le_trans HBW.out HB1.out.size) (fun i hi => by rw [hi]; exact hgB)), fun _ => ⟨_, blk_upd (HGB.out _ HB1.out) HUP.out HGN.out, ?_⟩⟩
    have h := HOF.out
    rw [show (⟨#[]⟩ : ByteArray) = nilB from rfl, fvs_put2 H2.out ⟨name, f.safe ++ f.tail, nilB⟩ ((getL_some Fil.name HSOME.out).2.symm), H3.out ⟨name, f.safe ++ f.tail, nilB⟩ rfl] at h
    have hln := len_put_some Fil.name (f := ⟨name, f.safe ++ f.tail, nilB⟩) HGD.out.srt HSOME.out
    show World.ownsRow _ B 92 3 _ (putL Fil.name _ l).length (fvs (putL Fil.name _ l))
    rw [hln]
    exact h
end Go.Proofs.YtmacceamebdelaaDoor
