/- The walk of package refs' Named. -/
import Derived.Test.YtinhjnbgblieeaaDoorSplit
import Derived.Test.YtinhjnbgblieeaaDoorHeap
import Derived.Test.YtinhjnbgblieeaaDoorContains
import Derived.Test.YtinhjnbgblieeaaDoorDiskLaw
namespace Go.Proofs.YtinhjnbgblieeaaDoor
open Go.RowKit Go.Shelf
attribute [local go_sem] Oper.semAt_some
set_option linter.unusedVariables false
set_option linter.unusedSimpArgs false

def badR (c : Nat) : Bool := (decide (c < 97) || decide (122 < c)) && ((decide (c < 48) || decide (57 < c)) && (decide (c ≠ 45) && decide (c ≠ 95)))
def pieceOk (p : ByteArray) : Bool := decide (p ≠ nilB) && !hasP badR p
def namedR (s : ByteArray) : Bool := decide (s.size ≤ 60) && (pieces s).all pieceOk
theorem namedRN_pays (w : World) : PredAt Tryd.prog 51 #[] encR badR w := fun W r _ => by
  unfold FnGives
  by_cases h1 : r < 97 <;> by_cases h2 : 122 < r <;> by_cases h3 : r < 48 <;> by_cases h4 : 57 < r <;> by_cases h5 : r = 45 <;> by_cases h6 : r = 95
  all_goals first | (exfalso; omega) | skip
  all_goals
    have z1 : (r : Int) < 97 ↔ r < 97 := by omega
    have z2 : (122 : Int) < (r : Int) ↔ 122 < r := by omega
    have z3 : (r : Int) < 48 ↔ r < 48 := by omega
    have z4 : (57 : Int) < (r : Int) ↔ 57 < r := by omega
    have z5 : (r : Int) = 45 ↔ r = 45 := by omega
    have z6 : (r : Int) = 95 ↔ r = 95 := by omega
    go_enter Tryd.func51, Tryd.ntmps51
    go_wp2
    all_goals first | (exfalso; omega) | (go_ret; exact ⟨by simp [badR, h1, h2, h3, h4, h5, h6, z1, z2, z3, z4, z5, z6], 0, rfl⟩)
theorem keeps_below {W W' : World} (h : Below W.heap.size W W') : KeepsOthers W W' := ⟨h.size, fun k o hk _ => (h.block k (Array.getElem?_eq_some_iff.1 hk).1).trans hk⟩
theorem isEmptyR (s : ByteArray) : s.toList.isEmpty = decide (s = nilB) := by
  rw [Bool.eq_iff_iff, decide_eq_true_eq, List.isEmpty_iff]
  constructor
  · intro h; exact toList_inj (h.trans (by rw [ByteArray.toList_eq]; rfl))
  · intro h; rw [h, ByteArray.toList_eq]; rfl
set_option maxRecDepth 100000 in
set_option maxHeartbeats 3200000 in
theorem namedR_any (s : ByteArray) (w : World) : Calls Tryd.prog 33 #[.string s] w fun e w' => e = .returned (.bool (namedR s)) ∧ Below w.heap.size w w' := by
  obtain ⟨r, hr⟩ : ∃ r, r = namedR s := ⟨_, rfl⟩
  rw [← hr]
  have HR := Lib.hid hr
  by_cases h60 : 60 < s.size
  · have hb : decide ((60 : Int) < (s.size : Int)) = true := decide_eq_true (by omega)
    have hbn : decide (60 < s.size) = true := decide_eq_true h60
    have hf : r = false := by rw [hr]; unfold namedR; rw [decide_eq_false (by omega)]; rfl
    subst hf
    have g0 : (w.alloc (.cells #[.bool false] 4)).cell? ⟨w.heap.size, 0, none⟩ = some (.bool false) := cell_block 0 _ rfl
    clear hr h60
    go_enter Tryd.func33, Tryd.ntmps33
    go_wp2_with fail
    refine bodyPost_ret (v := .bool false) ?_ rfl ⟨rfl, ?_⟩
    · simp [results, Tryd.f33, go_sem, g0]
    · exact (Below.refl _ _).alloc (Nat.le_refl _) _
  · have hb : decide ((60 : Int) < (s.size : Int)) = false := decide_eq_false (by omega)
    have hbn : decide (60 < s.size) = false := decide_eq_false h60
    have HS := Lib.hid (show s.size ≤ 60 by omega)
    clear hr h60
    refine (callsIn_wide (n := 3)).1 ?_
    refine callsIn_of_wp_marks Tryd.func33 rfl trivial ?_ rfl
    simp only [Tryd.ntmps33, List.size_toArray, List.length_cons, List.length_nil, Nat.reduceAdd, Nat.reduceSub, Array.replicate_succ, Array.replicate_zero, List.push_toArray, List.append_toArray, List.nil_append, List.cons_append]
    gi_wp2_with (refine ⟨trivial, ?_⟩; gi_at_call 50; refine (callsIn_wide.2 (SplitSeq_any _ _)).mono ?_; rintro e w' ⟨rfl, rfl⟩)
    obtain ⟨X, hX⟩ : ∃ X, (((w.alloc (.cells #[.bool false] 4)).alloc (.cells #[.string s] 9)).alloc (.cells #[.string ⟨#[47]⟩] 9)).alloc (.cells #[.int .i64 0] 3) = X := ⟨_, rfl⟩
    have hsz : X.heap.size = w.heap.size + 4 := by rw [← hX]; simp
    have hBX : Below w.heap.size w X := by rw [← hX]; exact ((((Below.refl _ _).alloc (Nat.le_refl _) _).alloc (by simp) _).alloc (by simp; omega) _).alloc (by simp; omega) _
    have g0 : X.heap[w.heap.size]? = some (.cells #[.bool false] 4 (0, 0)) := by rw [← hX]; exact heap_old (heap_old (heap_old (heap_alloc_new _ _)))
    have g1 : X.heap[w.heap.size + 1]? = some (.cells #[.string s] 9 (0, 0)) := by rw [← hX]; exact heap_old (heap_old (heap_new (by simp)))
    have g2 : X.heap[w.heap.size + 2]? = some (.cells #[.string ⟨#[47]⟩] 9 (0, 0)) := by rw [← hX]; exact heap_old (heap_new (by simp))
    have g3 : X.heap[w.heap.size + 3]? = some (.cells #[.int .i64 0] 3 (0, 0)) := by rw [← hX]; exact heap_new (by simp)
    simp only [World.size_alloc, Nat.add_assoc, Nat.reduceAdd]
    rw [hX]
    refine wpIn_rangeBox (F := Fence.wide) rfl (by omega) (gf := 78) (lb := #[.pointer (some ⟨w.heap.size + 2, 0, none⟩), .pointer (some ⟨w.heap.size + 1, 0, none⟩), .pointer (some ⟨w.heap.size + 3, 0, none⟩)]) rfl trivial (enters_of Tryd.func78 (by kernel_rfl) rfl)
      (split_seq (w.heap.size + 1) (w.heap.size + 2) (w.heap.size + 3) (w.heap.size + 4) (3 - 1) (by omega) s (by have := HS.out; omega) X (cell_one g1) (by simp [World.frozen?, g1]) (cell_one g2) (cell_one g3) (by omega) (by omega) (by omega) (by omega) (by omega)) (by omega) (by omega) rfl
      (fun pre W => (W.cell? ⟨w.heap.size, 0, none⟩ = some (.bool false) ∧ W.frozen? ⟨w.heap.size, 0, none⟩ = false ∧ pre.all pieceOk = true) ∧ w.heap.size + 4 ≤ W.heap.size ∧ Below w.heap.size w W)
      (fun pre W => (W.cell? ⟨w.heap.size, 0, none⟩ = some (.bool false) ∧ pre.all pieceOk = false) ∧ Below w.heap.size w W)
      (OwnFrom.and (Own.from (fun s A B row hs hg hr => ⟨cell_kept hs.1 hg hr, (frozen_kept hs.1 hg hr).trans hs.2.1, hs.2.2⟩) _) (OwnFrom.and (fun s A B row hs hg hr => Nat.le_trans hs hg.size) (ownFrom_below (Nat.le_refl _) (by omega))))
      (OwnFrom.and (Own.from (fun s A B row hs hg hr => ⟨cell_kept hs.1 hg hr, hs.2⟩) _) (ownFrom_below (Nat.le_refl _) (by omega)))
      (fun s W v h => ⟨⟨cell_set_ne (by omega) h.1.1, by rw [World.frozen?_setCell]; exact h.1.2.1, h.1.2.2⟩, by simpa [World.setCell] using h.2.1, h.2.2.setCell (p := ⟨w.heap.size + 1, 0, none⟩) (by show w.heap.size ≤ w.heap.size + 1; omega) _⟩)
      ⟨⟨cell_one g0, by simp [World.frozen?, g0], rfl⟩, by omega, hBX⟩
      (fun x => { tmps := #[.string s, undef, .pointer (some ⟨w.heap.size, 0, none⟩), .string x, undef, .string s, .int .i64 (s.size : Int), .bool false, .string s, .func (.func 78) #[] #[.pointer (some ⟨w.heap.size + 2, 0, none⟩), .pointer (some ⟨w.heap.size + 1, 0, none⟩), .pointer (some ⟨w.heap.size + 3, 0, none⟩)], .string x, undef, undef, undef, undef, undef, undef, undef], defers := [] }) ?assign ?body ?done ?stop
    case assign =>
      intro l x W K hK
      gi_wp2
      exact hK
    case body =>
      rintro l pre x W ⟨⟨hc, hf, hall⟩, hsW, hB⟩
      have hd : 1 ≤ 3 - 1 - 1 := by omega
      have HB := Lib.hid hB
      by_cases hx : x = nilB
      · have hE : x.toList.isEmpty = true := by rw [isEmptyR]; exact decide_eq_true hx
        have HALL := Lib.hid (show (pre ++ [x]).all pieceOk = false by rw [List.all_append]; simp [pieceOk, hx])
        clear hx hall hB
        gi_wp2
        refine ⟨trivial, ?_⟩
        gi_wp2
        exact ⟨KeepsOthers.setCell _ _ _, ⟨World.cell?_setCell_same' _ _ _ (by rw [hc]; rfl), HALL.out⟩, HB.out.setCell (p := ⟨w.heap.size, 0, none⟩) (Nat.le_refl _) _⟩
      · have hE : x.toList.isEmpty = false := by rw [isEmptyR]; exact decide_eq_false hx
        obtain ⟨b, hbb⟩ : ∃ b, b = hasP badR x := ⟨_, rfl⟩
        have HC := Lib.hid (contains_any 51 (enters_of Tryd.func51 (by kernel_rfl) rfl) badR x W (namedRN_pays W))
        rw [← hbb] at HC
        have HALL := Lib.hid (show (pre ++ [x]).all pieceOk = !b by rw [List.all_append, hall]; simp [pieceOk, hx, hbb])
        have HSW := Lib.hid hsW
        clear hx hall hB hbb
        have hlt : w.heap.size < W.heap.size := by omega
        cases b with
        | true =>
          gi_wp2_with (refine ⟨trivial, ?_⟩; gi_at_call 52; refine (CallsIn.inRound l (callsIn_wide.2 HC.out)).mono ?_; rintro e w' ⟨rfl, hb3⟩; have hc3 := (hb3.cell (p := ⟨w.heap.size, 0, none⟩) hlt).trans hc; have hf3 := (hb3.frozen (p := ⟨w.heap.size, 0, none⟩) hlt).trans hf)
          exact ⟨(keeps_below hb3).trans (KeepsOthers.setCell _ _ _), ⟨World.cell?_setCell_same' _ _ _ (by rw [hc3]; rfl), HALL.out⟩, (HB.out.trans (hb3.mono HB.out.size)).setCell (p := ⟨w.heap.size, 0, none⟩) (Nat.le_refl _) _⟩
        | false =>
          gi_wp2_with (refine ⟨trivial, ?_⟩; gi_at_call 52; refine (CallsIn.inRound l (callsIn_wide.2 HC.out)).mono ?_; rintro e w' ⟨rfl, hb3⟩; have hc3 := (hb3.cell (p := ⟨w.heap.size, 0, none⟩) hlt).trans hc; have hf3 := (hb3.frozen (p := ⟨w.heap.size, 0, none⟩) hlt).trans hf)
          exact ⟨keeps_below hb3, hb3.mono HSW.out, ⟨hc3, hf3, HALL.out⟩, Nat.le_trans HSW.out hb3.size, HB.out.trans (hb3.mono HB.out.size)⟩
    case done =>
      rintro D ys W hD rfl ⟨⟨hc, hf, hall⟩, hsW, hB⟩ hK
      have hr1 : r = true := by rw [HR.out]; unfold namedR; rw [decide_eq_true HS.out, hall]; rfl
      subst hr1
      have HB := Lib.hid hB
      clear hB
      gi_wp2
      have hK' := (KeepsOthers.setCell W ⟨w.heap.size, 0, none⟩ (.bool true)).same D _ hK rfl
      refine ⟨by simp, .inl ⟨_, _, rfl, run_takeDeferred hK', ?_⟩⟩
      have hc5 := cell_kept (World.cell?_setCell_same' W ⟨w.heap.size, 0, none⟩ (.bool true) (by rw [hc]; rfl)) (grownBy_putObj' _ D (.deferred none)) (fun r e => by cases e; exact ⟨_, hK', rfl⟩)
      refine ⟨.bool true, ?_, rfl, (HB.out.setCell (p := ⟨w.heap.size, 0, none⟩) (Nat.le_refl _) _).trans (belowK_b (w := w) (Nat.le_refl _) _ D _ _ (by omega) hK' rfl rfl)⟩
      simp [results, Tryd.f33, go_sem, hc5]
    case stop =>
      rintro D pre W hD hpre ⟨⟨hc, hall⟩, hB⟩ hK
      have hr1 : r = false := by
        rw [HR.out]
        unfold namedR
        obtain ⟨q, hq⟩ := hpre
        rw [← hq, List.all_append, hall]
        simp
      subst hr1
      have HB := Lib.hid hB
      clear hB
      gi_wp2
      refine ⟨by simp, .inl ⟨_, _, rfl, run_takeDeferred hK, ?_⟩⟩
      have hc5 := cell_kept hc (grownBy_putObj' _ D (.deferred none)) (fun r e => by cases e; exact ⟨_, hK, rfl⟩)
      refine ⟨.bool false, ?_, rfl, HB.out.trans (belowK_b (w := w) (Nat.le_refl _) W D _ _ (by omega) hK rfl rfl)⟩
      simp [results, Tryd.f33, go_sem, hc5]
end Go.Proofs.YtinhjnbgblieeaaDoor
