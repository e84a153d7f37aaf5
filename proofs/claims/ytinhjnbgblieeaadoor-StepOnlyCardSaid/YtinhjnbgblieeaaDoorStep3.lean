/- The walk of package step's Sign. -/
import Derived.Test.YtinhjnbgblieeaaDoorStep2
import Derived.Test.YtinhjnbgblieeaaDoorSumSeal
import Derived.Test.YtinhjnbgblieeaaDoorRegion3
namespace Go.Proofs.YtinhjnbgblieeaaDoor
open Go.RowKit
set_option linter.unusedVariables false
set_option linter.unusedSimpArgs false

theorem rdI_to {w : World} {v : Value} {ss : List Int} (hr : rdI w v ss) (k : Nat) (hk : k ≤ ss.length) :
    ∃ v', (∀ w' : World, (Instr.sliceAt 22 v none (some (.int .i64 (k : Int))) none).run Tryd.prog w' = .ok v' w') ∧ rdI w v' (ss.take k) := by
  obtain ⟨v', h1, h2⟩ := slice_to Tryd.underlying22 size_int hr k hk
  refine ⟨v', h1, ?_⟩
  rw [ivs_take] at h2
  have : (ss.take k).length = k := by rw [List.length_take]; omega
  unfold rdI; rw [this]; exact h2
theorem rdI_from {w : World} {v : Value} {ss : List Int} (hr : rdI w v ss) (k : Nat) (hk : k ≤ ss.length) :
    ∃ v', (∀ w' : World, (Instr.sliceAt 22 v (some (.int .i64 (k : Int))) none none).run Tryd.prog w' = .ok v' w') ∧ rdI w v' (ss.drop k) := by
  obtain ⟨v', h1, h2⟩ := slice_from Tryd.underlying22 size_int hr k hk
  refine ⟨v', h1, ?_⟩
  rw [ivs_drop] at h2
  unfold rdI; rw [List.length_drop]; exact h2
theorem owns_updN {S : Nat → Prop} {w w' : World} {base : Nat} {e : TypeId} {size : Nat} {v : Value} {n : Nat} {xs : List Value} (h : w.ownsRow base e size v n xs) (hu : Upd S w w') (hS : ∀ k, S k → k < base) : w'.ownsRow base e size v n xs := by
  refine ⟨h.1, ?_⟩
  rcases h.2 with h | ⟨g, cap, cur, rfl, hbg, hg, r⟩
  · exact .inl h
  · refine .inr ⟨g, cap, cur, rfl, hbg, ?_, r⟩
    rw [hu.block g (Array.getElem?_eq_some_iff.1 hg).1 (fun k => by have := hS g k; omega)]
    exact hg
/-- A world whose step box has its row of signers set. -/
structure RowAt (w W Z : World) (s : Stp) (v3 v4 : Value) (N : List Int) : Prop where
  blk : Z.heap[w.heap.size]? = some (.cells #[.string s.ref, .string s.old, .string s.new, v3, v4] 25 (0, 0))
  out : Z.heap[w.heap.size + 1]? = some (.cells #[.string ⟨#[]⟩, .string ⟨#[]⟩, .string ⟨#[]⟩, .slice none 0 0, .slice none 0 0] 25 (0, 0))
  own : Z.ownsRow W.heap.size 3 1 v3 N.length (ivs N)
  bel : Below w.heap.size w Z
  size : W.heap.size ≤ Z.heap.size
  ge : w.heap.size + 2 ≤ W.heap.size
theorem rowAt_mk {w W Z : World} {s : Stp} {v0 v3 v4 : Value} {N : List Int}
    (h0 : Z.heap[w.heap.size]? = some (.cells #[.string s.ref, .string s.old, .string s.new, v0, v4] 25 (0, 0)))
    (h1 : Z.heap[w.heap.size + 1]? = some (.cells #[.string ⟨#[]⟩, .string ⟨#[]⟩, .string ⟨#[]⟩, .slice none 0 0, .slice none 0 0] 25 (0, 0)))
    (hw : Below w.heap.size w W) (hb : Below W.heap.size W Z) (ho : Z.ownsRow W.heap.size 3 1 v3 N.length (ivs N)) (hg : w.heap.size + 2 ≤ W.heap.size) :
    RowAt w W (Z.setCell ⟨w.heap.size, 3, none⟩ v3) s v3 v4 N := by
  refine ⟨?_, ?_, ?_, ?_, ?_, hg⟩
  · rw [heap_setCell_same _ _ _ _ _ _ h0]; rfl
  · rw [heap_setCell_other _ _ _ _ (by simp)]; exact h1
  · exact owns_setCell ho (fun k => by have := (ho.lt _ k).1; dsimp only at this; omega) _
  · exact (hw.trans (hb.mono hw.size)).setCell (Nat.le_refl _) _
  · simpa using hb.size
structure RowAt2 (w W Y : World) (s : Stp) (v3 v4 : Value) (N : List Int) (M : List ByteArray) : Prop where
  blk : Y.heap[w.heap.size]? = some (.cells #[.string s.ref, .string s.old, .string s.new, v3, v4] 25 (0, 0))
  out : Y.heap[w.heap.size + 1]? = some (.cells #[.string ⟨#[]⟩, .string ⟨#[]⟩, .string ⟨#[]⟩, .slice none 0 0, .slice none 0 0] 25 (0, 0))
  own : Y.ownsRow W.heap.size 3 1 v3 N.length (ivs N)
  own2 : Y.ownsRow W.heap.size 9 1 v4 M.length (svs M)
  bel : Below w.heap.size w Y
theorem rowAt_mk2 {w W Z Y : World} {s : Stp} {v0 v3 v4 : Value} {N : List Int} {M : List ByteArray}
    (h0 : Y.heap[w.heap.size]? = some (.cells #[.string s.ref, .string s.old, .string s.new, v3, v0] 25 (0, 0)))
    (h1 : Y.heap[w.heap.size + 1]? = some (.cells #[.string ⟨#[]⟩, .string ⟨#[]⟩, .string ⟨#[]⟩, .slice none 0 0, .slice none 0 0] 25 (0, 0)))
    (hw : Below w.heap.size w Z) (hz : W.heap.size ≤ Z.heap.size) (hb : Below Z.heap.size Z Y) (ho : Y.ownsRow W.heap.size 3 1 v3 N.length (ivs N)) (ho2 : Y.ownsRow Z.heap.size 9 1 v4 M.length (svs M)) (hg : w.heap.size + 2 ≤ W.heap.size) :
    RowAt2 w W (Y.setCell ⟨w.heap.size, 4, none⟩ v4) s v3 v4 N M := by
  refine ⟨?_, ?_, ?_, ?_, ?_⟩
  · rw [heap_setCell_same _ _ _ _ _ _ h0]; rfl
  · rw [heap_setCell_other _ _ _ _ (by simp)]; exact h1
  · exact owns_setCell ho (fun k => by have := (ho.lt _ k).1; dsimp only at this; omega) _
  · exact owns_setCell (owns_base ho2 hz) (fun k => by have := (ho2.lt _ k).1; dsimp only at this; omega) _
  · exact (hw.trans (hb.mono hw.size)).setCell (Nat.le_refl _) _
section
variable {sl : ByteArray → ByteArray → ByteArray} {s : Stp} {at_ who : Int} {key : ByteArray}
theorem signF_1 (h : goodS s ≠ 0) : signF sl s at_ who key = (zeroStp, goodS s) := by unfold signF; rw [if_pos h]
theorem signF_2 (h : goodS s = 0) (h2 : (bodyF at_ s).2 ≠ 0) : signF sl s at_ who key = (zeroStp, (bodyF at_ s).2) := by unfold signF; rw [if_neg (fun k => k h), if_pos h2]
theorem signF_3 (h : goodS s = 0) (h2 : (bodyF at_ s).2 = 0) (h3 : who < 0 ∨ 8 ≤ who) : signF sl s at_ who key = (zeroStp, 3) := by unfold signF; rw [if_neg (fun k => k h), if_neg (fun k => k h2), if_pos h3]
theorem signF_4 (h : goodS s = 0) (h2 : (bodyF at_ s).2 = 0) (h3 : ¬ (who < 0 ∨ 8 ≤ who)) (h4 : s.who[whoK who s.who]? = some who) : signF sl s at_ who key = (zeroStp, 8) := by
  unfold signF; rw [if_neg (fun k => k h), if_neg (fun k => k h2), if_neg h3, if_pos h4]
theorem signF_5 (h : goodS s = 0) (h2 : (bodyF at_ s).2 = 0) (h3 : ¬ (who < 0 ∨ 8 ≤ who)) (h4 : ¬ s.who[whoK who s.who]? = some who) :
    signF sl s at_ who key = (⟨s.ref, s.old, s.new, insW (whoK who s.who) who s.who, insW (whoK who s.who) (sl key (bodyF at_ s).1) s.seals⟩, 0) := by
  unfold signF; rw [if_neg (fun k => k h), if_neg (fun k => k h2), if_neg h3, if_neg h4]
end
theorem getD_some {l : List Int} {k : Nat} {x : Int} (h : k < l.length) (e : l.getD k 0 = x) : l[k]? = some x := by
  rw [List.getD, List.getElem?_eq_getElem h] at e
  rw [List.getElem?_eq_getElem h, ← e]; rfl
theorem some_getD {l : List Int} {k : Nat} {x : Int} (h : k < l.length) (e : l[k]? = some x) : l.getD k 0 = x := by
  rw [List.getD, e]; rfl
def RetStp (w : World) (r : Stp × Int) (e : Ending) (w' : World) : Prop :=
  ∃ vw vs, e = .returned (.tuple #[.agg #[.string r.1.ref, .string r.1.old, .string r.1.new, vw, vs], .int .i64 r.2]) ∧ w'.ownsRow w.heap.size 3 1 vw r.1.who.length (ivs r.1.who) ∧ w'.ownsRow w.heap.size 9 1 vs r.1.seals.length (svs r.1.seals) ∧ Below w.heap.size w w'
theorem whoK_lt : ∀ {l : List Int} {x : Int} {j : Nat}, j < whoK x l → l.getD j 0 < x
  | [], x, j, h => by simp [whoK] at h
  | y :: l, x, j, h => by
    by_cases e : y < x
    · have hk : whoK x (y :: l) = whoK x l + 1 := by simp [whoK, e]
      cases j with
      | zero => simpa using e
      | succ j => simpa using whoK_lt (l := l) (x := x) (j := j) (by omega)
    · have hk : whoK x (y :: l) = 0 := by simp [whoK, e]
      omega
theorem whoK_stop : ∀ {l : List Int} {x : Int}, whoK x l < l.length → ¬ l.getD (whoK x l) 0 < x
  | [], x, h => by simp at h
  | y :: l, x, h => by
    by_cases e : y < x
    · have hk : whoK x (y :: l) = whoK x l + 1 := by simp [whoK, e]
      rw [hk] at h ⊢
      simpa using whoK_stop (l := l) (x := x) (by simpa using h)
    · have hk : whoK x (y :: l) = 0 := by simp [whoK, e]
      rw [hk]
      simpa using e
set_option maxRecDepth 100000 in
set_option maxHeartbeats 3200000 in
theorem signStp_any (s : Stp) (at_ who : Int) (key : ByteArray) (vw vs : Value) (w : World) (hw : rdI w vw s.who) (hs : rdS w vs s.seals) (hk : key.size ≤ 140737488355328) (ht : Tab w) :
    Calls Tryd.prog 11 #[.agg #[.string s.ref, .string s.old, .string s.new, vw, vs], .int .i64 at_, .int .i64 who, .string key] w (RetStp w (signF sealF s at_ who key)) := by
  obtain ⟨F, hF⟩ : ∃ F, F = signF sealF s at_ who key := ⟨_, rfl⟩
  rw [← hF]
  have HF := Lib.hid hF
  have HW := Lib.hid hw
  have HS := Lib.hid hs
  have HT := Lib.hid ht
  have HKS := Lib.hid hk
  obtain ⟨ae, ce, rfl⟩ := rd_form hw
  obtain ⟨af, cf, rfl⟩ := rd_form hs
  clear hF hw hs ht hk
  obtain ⟨W, hW⟩ : ∃ W, (w.alloc (.cells #[.string s.ref, .string s.old, .string s.new, .slice ae s.who.length ce, .slice af s.seals.length cf] 25)).alloc (.cells #[.string ⟨#[]⟩, .string ⟨#[]⟩, .string ⟨#[]⟩, .slice none 0 0, .slice none 0 0] 25) = W := ⟨_, rfl⟩
  have hbW : Below w.heap.size w W := by rw [← hW]; exact ((Below.refl _ _).alloc (Nat.le_refl _) _).alloc (by simp) _
  have g0 : W.heap[w.heap.size]? = some (.cells #[.string s.ref, .string s.old, .string s.new, .slice ae s.who.length ce, .slice af s.seals.length cf] 25 (0, 0)) := by rw [← hW]; exact (Below.heap_alloc _ _ _ (by simp)).trans (heap_alloc_new _ _)
  have g1 : W.heap[w.heap.size + 1]? = some (.cells #[.string ⟨#[]⟩, .string ⟨#[]⟩, .string ⟨#[]⟩, .slice none 0 0, .slice none 0 0] 25 (0, 0)) := by rw [← hW]; have := heap_alloc_new (w.alloc (.cells #[.string s.ref, .string s.old, .string s.new, .slice ae s.who.length ce, .slice af s.seals.length cf] 25)) (.cells #[.string ⟨#[]⟩, .string ⟨#[]⟩, .string ⟨#[]⟩, .slice none 0 0, .slice none 0 0] 25); simpa using this
  have HBW := Lib.hid hbW
  have HGE := Lib.hid (show w.heap.size + 2 ≤ W.heap.size by rw [← hW]; simp)
  have HG0 := Lib.hid (fun w' (h : Below W.heap.size W w') => blk_below g0 h)
  have HG1 := Lib.hid (fun w' (h : Below W.heap.size W w') => blk_below g1 h)
  have HGD := Lib.hid (goodStp_any s (.slice ae s.who.length ce) (.slice af s.seals.length cf) W (HW.out.below HBW.out) (HS.out.below HBW.out))
  obtain ⟨c0, c1, c2, c3, c4, z3, z4⟩ := stp_cells g0
  clear hbW g0 g1
  obtain ⟨eg, heg⟩ : ∃ eg, eg = goodS s := ⟨_, rfl⟩
  rw [← heg] at HGD
  by_cases hgz : eg = 0
  · subst hgz
    have HG0S := Lib.hid heg.symm
    have hh := (goodS_inv heg.symm).1
    have HHD := Lib.hid hh
    have HBD := Lib.hid (fun wr => bodyStp_any at_ s (.slice ae s.who.length ce) (.slice af s.seals.length cf) wr hh)
    have HLE := Lib.hid (show s.who.length ≤ 8 ∧ s.seals.length = s.who.length by have hb : ¬ (8 < s.who.length ∨ s.who.length ≠ s.seals.length) := fun hb => absurd (goodS_2 hh hb) (by rw [← heg]; decide); omega)
    have HBZ := Lib.hid (show (bodyF at_ s).1.size ≤ 140737488355328 by
      by_cases hat : at_ < 0 ∨ 200 ≤ at_
      · rw [bodyF_1 hat]; decide
      · rw [bodyF_2 hat]
        show (bodyL at_.toNat s).toArray.size ≤ _
        have := body_length (n := at_.toNat) (by omega) hh
        simp only [List.size_toArray]; omega)
    obtain ⟨bd, hbd⟩ : ∃ bd, bd = (bodyF at_ s).1 := ⟨_, rfl⟩
    obtain ⟨eb, heb⟩ : ∃ eb, eb = (bodyF at_ s).2 := ⟨_, rfl⟩
    rw [← hbd] at HBZ
    rw [← hbd, ← heb] at HBD
    have HBS := HBZ
    have HBDD := Lib.hid hbd
    clear heg hh hbd
    by_cases hbz : eb = 0
    · subst hbz
      have HBDS := Lib.hid heb.symm
      clear heb
      by_cases hr : who < 0 ∨ 8 ≤ who
      · have hF := HF.out.trans (signF_3 HG0S.out HBDS.out hr)
        subst hF
        by_cases h0 : who < 0
        · have r0 : decide (who < 0) = true := decide_eq_true h0
          go_enter Tryd.func11, Tryd.ntmps11
          go_wp2_with fail
          (with_reducible refine HGD.out.mono ?_)
          rintro e w1 ⟨rfl, hb⟩
          have HB1 := Lib.hid hb
          clear hb c0 c1 c2 c3 c4 z3 z4
          obtain ⟨c0, c1, c2, c3, c4, z3, z4⟩ := stp_cells (HG0.out _ HB1.out)
          go_wp2_with fail
          (with_reducible refine (HBD.out w1).mono ?_)
          rintro e w2 ⟨rfl, hb⟩
          have HB2 := Lib.hid (HB1.out.trans (hb.mono HB1.out.size))
          clear hb c0 c1 c2 c3 c4 z3 z4
          obtain ⟨c0, c1, c2, c3, c4, z3, z4⟩ := stp_cells (HG0.out _ HB2.out)
          go_wp2_with (refine wpList_store_blk (by rfl) 25 (.tmp 8) (.tmp 36) rfl (w.heap.size + 1) #[.string ⟨#[]⟩, .string ⟨#[]⟩, .string ⟨#[]⟩, .slice none 0 0, .slice none 0 0] rfl rfl (HG1.out _ HB2.out) (by kernel_rfl) rfl (by simp [Value.oneCell']) ?_; intro wz hgz huz)
          obtain ⟨e0, e1, e2, e3, e4, _, _⟩ := stp_cells hgz
          refine bodyPost_ret (v := .tuple #[.agg #[.string ⟨#[]⟩, .string ⟨#[]⟩, .string ⟨#[]⟩, .slice none 0 0, .slice none 0 0], .int .i64 (3)]) ?_ rfl ⟨.slice none 0 0, .slice none 0 0, rfl, World.ownsRow_nil _ _ _ _, World.ownsRow_nil _ _ _ _, below_upd (HBW.out.trans (HB2.out.mono HBW.out.size)) huz (Nat.le_succ _) (Nat.le_trans HBW.out.size HB2.out.size)⟩
          simp [results, Tryd.f11, go_sem, e0, e1, e2, e3, e4]
        · have r0 : decide (who < 0) = false := decide_eq_false h0
          have r8 : decide (8 ≤ who) = true := decide_eq_true (by omega)
          go_enter Tryd.func11, Tryd.ntmps11
          go_wp2_with fail
          (with_reducible refine HGD.out.mono ?_)
          rintro e w1 ⟨rfl, hb⟩
          have HB1 := Lib.hid hb
          clear hb c0 c1 c2 c3 c4 z3 z4
          obtain ⟨c0, c1, c2, c3, c4, z3, z4⟩ := stp_cells (HG0.out _ HB1.out)
          go_wp2_with fail
          (with_reducible refine (HBD.out w1).mono ?_)
          rintro e w2 ⟨rfl, hb⟩
          have HB2 := Lib.hid (HB1.out.trans (hb.mono HB1.out.size))
          clear hb c0 c1 c2 c3 c4 z3 z4
          obtain ⟨c0, c1, c2, c3, c4, z3, z4⟩ := stp_cells (HG0.out _ HB2.out)
          go_wp2_with (refine wpList_store_blk (by rfl) 25 (.tmp 8) (.tmp 36) rfl (w.heap.size + 1) #[.string ⟨#[]⟩, .string ⟨#[]⟩, .string ⟨#[]⟩, .slice none 0 0, .slice none 0 0] rfl rfl (HG1.out _ HB2.out) (by kernel_rfl) rfl (by simp [Value.oneCell']) ?_; intro wz hgz huz)
          obtain ⟨e0, e1, e2, e3, e4, _, _⟩ := stp_cells hgz
          refine bodyPost_ret (v := .tuple #[.agg #[.string ⟨#[]⟩, .string ⟨#[]⟩, .string ⟨#[]⟩, .slice none 0 0, .slice none 0 0], .int .i64 (3)]) ?_ rfl ⟨.slice none 0 0, .slice none 0 0, rfl, World.ownsRow_nil _ _ _ _, World.ownsRow_nil _ _ _ _, below_upd (HBW.out.trans (HB2.out.mono HBW.out.size)) huz (Nat.le_succ _) (Nat.le_trans HBW.out.size HB2.out.size)⟩
          simp [results, Tryd.f11, go_sem, e0, e1, e2, e3, e4]
      · have r0 : decide (who < 0) = false := decide_eq_false (by omega)
        have r8 : decide (8 ≤ who) = false := decide_eq_false (by omega)
        have HRG := Lib.hid hr
        clear hr
        go_enter Tryd.func11, Tryd.ntmps11
        go_wp2_with fail
        (with_reducible refine HGD.out.mono ?_)
        rintro e w1 ⟨rfl, hb⟩
        have HB1 := Lib.hid hb
        clear hb c0 c1 c2 c3 c4 z3 z4
        obtain ⟨c0, c1, c2, c3, c4, z3, z4⟩ := stp_cells (HG0.out _ HB1.out)
        go_wp2_with fail
        (with_reducible refine (HBD.out w1).mono ?_)
        rintro e w2 ⟨rfl, hb⟩
        have HB2 := Lib.hid (HB1.out.trans (hb.mono HB1.out.size))
        clear hb c0 c1 c2 c3 c4 z3 z4
        obtain ⟨c0, c1, c2, c3, c4, z3, z4⟩ := stp_cells (HG0.out _ HB2.out)
        have HKL := Lib.hid (whoK_le who s.who)
        have HLT := Lib.hid (fun j (h : j < whoK who s.who) => whoK_lt h)
        have HST := Lib.hid (fun h : whoK who s.who < s.who.length => whoK_stop h)
        obtain ⟨N, hN⟩ : ∃ N, N = insW (whoK who s.who) who s.who := ⟨_, rfl⟩
        obtain ⟨M, hM⟩ : ∃ M, M = insW (whoK who s.who) (sealF key bd) s.seals := ⟨_, rfl⟩
        have HNM := Lib.hid (And.intro hN hM)
        clear hN hM
        obtain ⟨kk, hkk⟩ : ∃ kk, kk = whoK who s.who := ⟨_, rfl⟩
        rw [← hkk] at HKL HLT HST HNM
        have HKK := Lib.hid hkk
        have HWR := Lib.hid (fun wr (h : Below W.heap.size W wr) => HW.out.below (HBW.out.trans (h.mono HBW.out.size)))
        go_wp2_with fail
        clear hkk c0 c1 c2 c3 c4 z3 z4
        go_loopw [13] (fun j wr => ∃ k : Nat, k ≤ kk ∧ j = .int .i64 (k : Int) ∧ Hid (Below W.heap.size W wr)) (fun j _ => kk - (intOf j).toNat)
        case atStart => exact ⟨0, Nat.zero_le _, rfl, HB2⟩
        case round =>
          clear HB1 HB2
          obtain ⟨k, hk, rfl, HB9⟩ := hrel
          have HK8 := Lib.hid (show kk ≤ 8 by have h1 := HKL.out; have h2 := HLE.out; omega)
          obtain ⟨c0, c1, c2, c3, c4, z3, z4⟩ := stp_cells (HG0.out _ HB9.out)
          by_cases hl : k < s.who.length
          · have hkl : decide ((k : Int) < (s.who.length : Int)) = true := decide_eq_true (by omega)
            have hki : (k : Int) < (s.who.length : Int) := by omega
            have hk0 : (0 : Int) ≤ (k : Int) := by omega
            obtain ⟨b, off, hae, hbl, hcw⟩ := rdI_at (HWR.out _ HB9.out) (by omega)
            subst hae
            have d0 := hcw k hl
            obtain ⟨x, hx⟩ : ∃ x, x = s.who.getD k 0 := ⟨_, rfl⟩
            rw [← hx] at d0
            have HX := Lib.hid hx
            clear hbl hcw hx
            by_cases hlt : k < kk
            · have xb : decide (x < who) = true := decide_eq_true (by rw [HX.out]; exact HLT.out k hlt)
              have HKLT := Lib.hid hlt
              clear hlt hl
              have hw1 : wrap64 ((k : Int) + 1) = (k : Int) + 1 := IntWalk.wrap64_in _ (by have := HK8.out; omega)
              go_wp2_with fail
              go_roundw
              case rel => exact ⟨k + 1, by have := HKLT.out; omega, by first | rfl | (rw [hw1]; rfl), HB9⟩
              case measure => exact meas_step _ (by first | rfl | exact hw1) HKLT.out
            · have hkk : kk = k := by omega
              subst hkk
              have HNX := Lib.hid (show ¬ x < who by rw [HX.out]; exact Int.not_lt.2 (HST.out hl))
              have xb : decide (x < who) = false := decide_eq_false HNX.out
              by_cases he : x = who
              · have hF := HF.out.trans (signF_4 HG0S.out HBDS.out HRG.out (by rw [← HKK.out]; exact getD_some hl (HX.out.symm.trans he)))
                subst hF
                have xe : (x == who) = true := beq_iff_eq.2 he
                clear he hl hlt
                go_wp2_with (refine wpList_store_blk (by rfl) 25 (.tmp 8) (.tmp 67) rfl (w.heap.size + 1) #[.string ⟨#[]⟩, .string ⟨#[]⟩, .string ⟨#[]⟩, .slice none 0 0, .slice none 0 0] rfl rfl (HG1.out _ HB9.out) (by kernel_rfl) rfl (by simp [Value.oneCell']) ?_; intro wz hgz huz)
                obtain ⟨e0, e1, e2, e3, e4, _, _⟩ := stp_cells hgz
                refine bodyPost_ret (v := .tuple #[.agg #[.string ⟨#[]⟩, .string ⟨#[]⟩, .string ⟨#[]⟩, .slice none 0 0, .slice none 0 0], .int .i64 (8)]) ?_ rfl ⟨.slice none 0 0, .slice none 0 0, rfl, World.ownsRow_nil _ _ _ _, World.ownsRow_nil _ _ _ _, below_upd (HBW.out.trans (HB9.out.mono HBW.out.size)) huz (Nat.le_succ _) (Nat.le_trans HBW.out.size HB9.out.size)⟩
                simp [results, Tryd.f11, go_sem, e0, e1, e2, e3, e4]
              · have HTW := Lib.hid (show ¬ s.who[whoK who s.who]? = some who by rw [← HKK.out]; exact fun e => he (HX.out.trans (some_getD hl e)))
                have xe : (x == who) = false := beq_eq_false_iff_ne.2 he
                clear he hlt
                have hF := HF.out.trans (signF_5 HG0S.out HBDS.out HRG.out HTW.out)
                rw [← HBDD.out, ← HKK.out, ← HNM.out.1, ← HNM.out.2] at hF
                subst hF
                have HK2 := Lib.hid (show kk ≤ s.who.length ∧ kk ≤ s.seals.length by have h1 := HKL.out; have h2 := HLE.out; omega)
                obtain ⟨v1, hv1, r1⟩ := rdI_to (HWR.out W (Below.refl _ _)) kk HK2.out.1
                obtain ⟨v2, hv2, r2⟩ := rdI_from (HWR.out W (Below.refl _ _)) kk HK2.out.1
                have E1 := Lib.hid hv1
                have E2 := Lib.hid hv2
                have R1 := Lib.hid (fun w' (h : Below W.heap.size W w') => r1.below h)
                have R2 := Lib.hid (fun w' (h : Below W.heap.size W w') => r2.below h)
                have HL1 := Lib.hid (show (s.who.take kk).length ≤ 8 ∧ (s.seals.take kk).length ≤ 8 by have h1 := HLE.out; rw [List.length_take, List.length_take]; omega)
                have HL2 := Lib.hid (show (s.who.drop kk).length ≤ 8 ∧ (s.seals.drop kk).length ≤ 8 by have h1 := HLE.out; rw [List.length_drop, List.length_drop]; omega)
                have HLEN := Lib.hid (show 0 + (s.who.take kk).length + 1 + (s.who.drop kk).length = N.length by rw [HNM.out.1]; simp [insW]; omega)
                have HIV := Lib.hid (show [] ++ ivs (s.who.take kk) ++ [Value.int .i64 who] ++ ivs (s.who.drop kk) = ivs N by rw [HNM.out.1]; simp [insW, ivs])
                have HLEN2 := Lib.hid (show 0 + (s.seals.take kk).length + 1 + (s.seals.drop kk).length = M.length by rw [HNM.out.2]; simp [insW]; omega)
                have HSV := Lib.hid (show [] ++ svs (s.seals.take kk) ++ [Value.string (sealF key bd)] ++ svs (s.seals.drop kk) = svs M by rw [HNM.out.2]; simp [insW, svs])
                clear hv1 hv2 r1 r2
                go_wp2_with fail
                refine Twin.wp_region_order (.q 0 (.q 1 (.q 2 (.q 3 (.q 5 (.q 8 (.q 9 (.q 10 (.q 11 (.l2 4 6 (.l 6 (.l 7 (.l 12 (.q 13 (.l 14 .nil))))) (.l 4 (.l 7 (.l 12 (.q 13 (.l 14 .nil))))))))))))))) (fun w' => w'.cell? ⟨w.heap.size, 3, none⟩ = some (.slice (some ⟨b, off, none⟩) s.who.length ce)) (by kernel_rfl) (by kernel_rfl) rfl (by kernel_rfl) (by intro _ _ d _ _ h; cases d <;> exact h) (c3) ?_; simp only [Twin.Ord.opers, List.getElem?_toArray, List.getElem?_cons_zero, List.getElem?_cons_succ, Option.getD_some]
                repeat (first | (refine Twin.ro_q (by rfl) (v := ?_) ?_ ?_; rotate_left; (focus (intro w' hSw; (try dsimp only at hSw); go_simp; try with_reducible rfl)); simp only [Act.put, List.setIfInBounds_toArray, List.set_cons_zero, List.set_cons_succ]) | (refine Twin.ro_skip (by rfl) ?_; simp only [Act.put, List.setIfInBounds_toArray, List.set_cons_zero, List.set_cons_succ]))
                refine Twin.ro_q (by rfl) (v := v1) (fun w' hSw => by simp only [execOp, Act.eval, List.getElem?_toArray, List.getElem?_cons_zero, List.getElem?_cons_succ, Array.getD_eq_getD_getElem?, Option.getD_some, Option.map_some, Option.map_none, Sem.run_bind, E1.out, Result.andThen, Sem.run_pure]) ?_; simp only [Act.put, List.setIfInBounds_toArray, List.set_cons_zero, List.set_cons_succ]
                repeat (first | (refine Twin.ro_q (by rfl) (v := ?_) ?_ ?_; rotate_left; (focus (intro w' hSw; (try dsimp only at hSw); go_simp; try with_reducible rfl)); simp only [Act.put, List.setIfInBounds_toArray, List.set_cons_zero, List.set_cons_succ]) | (refine Twin.ro_skip (by rfl) ?_; simp only [Act.put, List.setIfInBounds_toArray, List.set_cons_zero, List.set_cons_succ]))
                refine Twin.ro_q (by rfl) (v := v2) (fun w' hSw => by simp only [execOp, Act.eval, List.getElem?_toArray, List.getElem?_cons_zero, List.getElem?_cons_succ, Array.getD_eq_getD_getElem?, Option.getD_some, Option.map_some, Option.map_none, Sem.run_bind, E2.out, Result.andThen, Sem.run_pure]) ?_; simp only [Act.put, List.setIfInBounds_toArray, List.set_cons_zero, List.set_cons_succ]
                repeat (first | (refine Twin.ro_q (by rfl) (v := ?_) ?_ ?_; rotate_left; (focus (intro w' hSw; (try dsimp only at hSw); go_simp; try with_reducible rfl)); simp only [Act.put, List.setIfInBounds_toArray, List.set_cons_zero, List.set_cons_succ]) | (refine Twin.ro_skip (by rfl) ?_; simp only [Act.put, List.setIfInBounds_toArray, List.set_cons_zero, List.set_cons_succ]))
                clear c0 c1 c2 c3 c4 z3 z4
                refine Twin.ro_two ?_ ?_
                focus (
                  skip
                  (refine Twin.ro_loud (by rfl) (fun K hK => ?_))
                  refine wp_append_rd ((.const (.slice none 0 0))) ((.tmp 71)) 22 rfl info_int Tryd.underlying22 rfl (by decide) (by decide) (World.ownsRow_nil _ _ _ _) (HB9.out.drew) (Nat.le_refl _) (HB9.out.drew).size (R1.out _ HB9.out.drew) (ivs_one _) (by have := HL1.out; have := HL2.out; omega) rfl rfl ?_
                  intro v4 w4 ow4 b4
                  have q3 := (stp_cells (HG0.out _ b4)).2.2.2.1
                  (refine hK.out _ _ (fun w' => w'.cell? ⟨w.heap.size, 3, none⟩ = some (.slice (some ⟨b, off, none⟩) s.who.length ce)) (.inl fun _ h => h) (q3) ?_; clear hK K; try simp only [Act.put, List.setIfInBounds_toArray, List.set_cons_zero, List.set_cons_succ])
                  (refine Twin.ro_loud (by rfl) (fun K hK => ?_); go_simp)
                  have ow6 := ow4.alloc (.cells #[.int .i64 who] 3)
                  have r6 := rdI_one (heap_alloc_new w4 (.cells #[.int .i64 who] 3))
                  have b6 := b4.alloc b4.size (.cells #[.int .i64 who] 3)
                  have q3 := (stp_cells (HG0.out _ b6)).2.2.2.1
                  (refine hK.out _ _ (fun w' => w'.cell? ⟨w.heap.size, 3, none⟩ = some (.slice (some ⟨b, off, none⟩) s.who.length ce)) (.inl fun _ h => h) (q3) ?_; clear hK K; try simp only [Act.put, List.setIfInBounds_toArray, List.set_cons_zero, List.set_cons_succ])
                  clear ow4 b4
                  (refine Twin.ro_loud (by rfl) (fun K hK => ?_))
                  refine wp_append_rd (.tmp 72) (.tmp 74) 22 rfl info_int Tryd.underlying22 rfl (by decide) (by decide) (ow6) (b6) (Nat.le_refl _) (b6).size (r6) ((fun y hy => by obtain rfl := List.mem_singleton.1 hy; rfl)) (by have := HL1.out; have := HL2.out; omega) rfl rfl ?_
                  intro v7 w7 ow7 b7
                  have q3 := (stp_cells (HG0.out _ b7)).2.2.2.1
                  (refine hK.out _ _ (fun w' => w'.cell? ⟨w.heap.size, 3, none⟩ = some (.slice (some ⟨b, off, none⟩) s.who.length ce)) (.inl fun _ h => h) (q3) ?_; clear hK K; try simp only [Act.put, List.setIfInBounds_toArray, List.set_cons_zero, List.set_cons_succ])
                  clear ow6 b6 r6
                  (refine Twin.ro_loud (by rfl) (fun K hK => ?_))
                  refine wp_append_rd (.tmp 75) (.tmp 79) 22 rfl info_int Tryd.underlying22 rfl (by decide) (by decide) (ow7) (b7) (Nat.le_refl _) (b7).size (R2.out _ b7) (ivs_one _) (by have := HL1.out; have := HL2.out; omega) rfl rfl ?_
                  intro v8 w8 ow8 b8
                  obtain ⟨q0, q1, q2, q3, q4, y3, y4⟩ := stp_cells (HG0.out _ b8)
                  (refine hK.out _ _ (fun w' => w'.cell? ⟨w.heap.size, 3, none⟩ = some (.slice (some ⟨b, off, none⟩) s.who.length ce)) (.inl fun _ h => h) (q3) ?_; clear hK K; try simp only [Act.put, List.setIfInBounds_toArray, List.set_cons_zero, List.set_cons_succ])
                  rw [HLEN.out, HIV.out] at ow8
                  obtain ⟨a8, k8, rfl⟩ := rd_form (rdI_owns ow8)
                  repeat (first | (refine Twin.ro_q (by rfl) (v := ?_) ?_ ?_; rotate_left; (focus (intro w' hSw; (try dsimp only at hSw); go_simp; try with_reducible rfl)); simp only [Act.put, List.setIfInBounds_toArray, List.set_cons_zero, List.set_cons_succ]) | (refine Twin.ro_skip (by rfl) ?_; simp only [Act.put, List.setIfInBounds_toArray, List.set_cons_zero, List.set_cons_succ]))
                  (refine Twin.ro_loud (by rfl) (fun K hK => ?_); go_simp)
                  (refine hK.out _ _ (fun _ => True) (.inr (by kernel_rfl)) trivial ?_; clear hK K; try simp only [Act.put, List.setIfInBounds_toArray, List.set_cons_zero, List.set_cons_succ])
                  refine Twin.ro_nil ?_
                  have H8 := Lib.hid (rowAt_mk (s := s) (HG0.out _ b8) (HG1.out _ b8) HBW.out b8 ow8 HGE.out)
                  obtain ⟨Z, hZ⟩ : ∃ Z, w8.setCell ⟨w.heap.size, 3, none⟩ (.slice a8 N.length k8) = Z := ⟨_, rfl⟩
                  rw [hZ] at H8
                  try rw [hZ]
                  clear hZ b8 ow8 ow7 b7 q0 q1 q2 q3 q4 y3 y4)
                rotate_left
                focus (
                  skip
                  (refine Twin.ro_loud (by rfl) (fun K hK => ?_); go_simp)
                  have b5 := HB9.out.drew.alloc HB9.out.drew.size (.cells #[.int .i64 who] 3)
                  have g5 := rdI_one (heap_alloc_new wr.drew (.cells #[.int .i64 who] 3))
                  have q3 := (stp_cells (HG0.out _ b5)).2.2.2.1
                  (refine hK.out _ _ (fun w' => w'.cell? ⟨w.heap.size, 3, none⟩ = some (.slice (some ⟨b, off, none⟩) s.who.length ce)) (.inl fun _ h => h) (q3) ?_; clear hK K; try simp only [Act.put, List.setIfInBounds_toArray, List.set_cons_zero, List.set_cons_succ])
                  (refine Twin.ro_loud (by rfl) (fun K hK => ?_))
                  refine wp_append_rd ((.const (.slice none 0 0))) ((.tmp 71)) 22 rfl info_int Tryd.underlying22 rfl (by decide) (by decide) (World.ownsRow_nil _ _ _ _) (Below.refl ((wr.drew.alloc (.cells #[.int .i64 who] 3))).heap.size (wr.drew.alloc (.cells #[.int .i64 who] 3))) (Nat.le_refl _) (Below.refl ((wr.drew.alloc (.cells #[.int .i64 who] 3))).heap.size (wr.drew.alloc (.cells #[.int .i64 who] 3))).size (R1.out _ b5) (ivs_one _) (by have := HL1.out; have := HL2.out; omega) rfl rfl ?_
                  intro v4 w6 ow4 b4
                  have b6 := b5.trans (b4.mono b5.size)
                  have ow6 := owns_base ow4 b5.size
                  have r6 := rdRow.below g5 b4
                  have q3 := (stp_cells (HG0.out _ b6)).2.2.2.1
                  (refine hK.out _ _ (fun w' => w'.cell? ⟨w.heap.size, 3, none⟩ = some (.slice (some ⟨b, off, none⟩) s.who.length ce)) (.inl fun _ h => h) (q3) ?_; clear hK K; try simp only [Act.put, List.setIfInBounds_toArray, List.set_cons_zero, List.set_cons_succ])
                  clear ow4 b4 b5 g5
                  (refine Twin.ro_loud (by rfl) (fun K hK => ?_))
                  refine wp_append_rd (.tmp 72) (.tmp 74) 22 rfl info_int Tryd.underlying22 rfl (by decide) (by decide) (ow6) (b6) (Nat.le_refl _) (b6).size (r6) ((fun y hy => by obtain rfl := List.mem_singleton.1 hy; rfl)) (by have := HL1.out; have := HL2.out; omega) rfl rfl ?_
                  intro v7 w7 ow7 b7
                  have q3 := (stp_cells (HG0.out _ b7)).2.2.2.1
                  (refine hK.out _ _ (fun w' => w'.cell? ⟨w.heap.size, 3, none⟩ = some (.slice (some ⟨b, off, none⟩) s.who.length ce)) (.inl fun _ h => h) (q3) ?_; clear hK K; try simp only [Act.put, List.setIfInBounds_toArray, List.set_cons_zero, List.set_cons_succ])
                  clear ow6 b6 r6
                  (refine Twin.ro_loud (by rfl) (fun K hK => ?_))
                  refine wp_append_rd (.tmp 75) (.tmp 79) 22 rfl info_int Tryd.underlying22 rfl (by decide) (by decide) (ow7) (b7) (Nat.le_refl _) (b7).size (R2.out _ b7) (ivs_one _) (by have := HL1.out; have := HL2.out; omega) rfl rfl ?_
                  intro v8 w8 ow8 b8
                  obtain ⟨q0, q1, q2, q3, q4, y3, y4⟩ := stp_cells (HG0.out _ b8)
                  (refine hK.out _ _ (fun w' => w'.cell? ⟨w.heap.size, 3, none⟩ = some (.slice (some ⟨b, off, none⟩) s.who.length ce)) (.inl fun _ h => h) (q3) ?_; clear hK K; try simp only [Act.put, List.setIfInBounds_toArray, List.set_cons_zero, List.set_cons_succ])
                  rw [HLEN.out, HIV.out] at ow8
                  obtain ⟨a8, k8, rfl⟩ := rd_form (rdI_owns ow8)
                  repeat (first | (refine Twin.ro_q (by rfl) (v := ?_) ?_ ?_; rotate_left; (focus (intro w' hSw; (try dsimp only at hSw); go_simp; try with_reducible rfl)); simp only [Act.put, List.setIfInBounds_toArray, List.set_cons_zero, List.set_cons_succ]) | (refine Twin.ro_skip (by rfl) ?_; simp only [Act.put, List.setIfInBounds_toArray, List.set_cons_zero, List.set_cons_succ]))
                  (refine Twin.ro_loud (by rfl) (fun K hK => ?_); go_simp)
                  (refine hK.out _ _ (fun _ => True) (.inr (by kernel_rfl)) trivial ?_; clear hK K; try simp only [Act.put, List.setIfInBounds_toArray, List.set_cons_zero, List.set_cons_succ])
                  refine Twin.ro_nil ?_
                  have H8 := Lib.hid (rowAt_mk (s := s) (HG0.out _ b8) (HG1.out _ b8) HBW.out b8 ow8 HGE.out)
                  obtain ⟨Z, hZ⟩ : ∃ Z, w8.setCell ⟨w.heap.size, 3, none⟩ (.slice a8 N.length k8) = Z := ⟨_, rfl⟩
                  rw [hZ] at H8
                  try rw [hZ]
                  clear hZ b8 ow8 ow7 b7 q0 q1 q2 q3 q4 y3 y4)
                all_goals (
                  obtain ⟨HN8, HO8, HOW8, HBE8, HSZ8, HGL8⟩ := H8.out
                  have HG2 := Lib.hid (fun wr (h : Below Z.heap.size Z wr) => blk_below HN8 h)
                  have HG3 := Lib.hid (fun wr (h : Below Z.heap.size Z wr) => blk_below HO8 h)
                  have HT8 := Lib.hid (fun wr (h : Below Z.heap.size Z wr) => HT.out.below (HBE8.trans (h.mono HBE8.size)))
                  have RS := Lib.hid (fun wr (h : Below Z.heap.size Z wr) => HS.out.below (HBE8.trans (h.mono HBE8.size)))
                  obtain ⟨v1, hv1, r1⟩ := rdS_to (RS.out Z (Below.refl _ _)) kk (by have := HK2.out; omega)
                  obtain ⟨v2, hv2, r2⟩ := rdS_from (RS.out Z (Below.refl _ _)) kk (by have := HK2.out; omega)
                  have F1 := Lib.hid hv1
                  have F2 := Lib.hid hv2
                  have T1 := Lib.hid (fun wr (h : Below Z.heap.size Z wr) => rdS.below r1 h)
                  have T2 := Lib.hid (fun wr (h : Below Z.heap.size Z wr) => rdS.below r2 h)
                  have HW8 := Lib.hid HOW8
                  have HE8 := Lib.hid HBE8
                  have HZ8 := Lib.hid HSZ8
                  clear hv1 hv2 r1 r2 HOW8 HBE8 HSZ8
                  obtain ⟨c0, c1, c2, c3, c4, z3, z4⟩ := stp_cells (HG2.out _ (Below.refl _ _).drew)
                  clear HN8 HO8
                  go_wp2_with fail
                  refine Lone.wp_region_order [(0, false), (1, false), (2, false), (3, false), (5, false), (6, false), (10, false), (11, false), (12, false), (13, false), (4, true), (7, true), (8, true), (9, true), (14, true), (15, false), (16, true)] (fun w' => w'.cell? ⟨w.heap.size, 4, none⟩ = some (.slice af s.seals.length cf)) (by kernel_rfl) (by kernel_rfl) rfl (by kernel_rfl) (by intro _ _ d _ _ h; cases d <;> exact h) (c4) ?_; simp only [List.map_cons, List.map_nil, List.getElem?_toArray, List.getElem?_cons_zero, List.getElem?_cons_succ, Option.getD_some]
                  repeat (first | (refine Lone.ro_q (by rfl) (v := ?_) ?_ ?_; rotate_left; (focus (intro w' hSw; (try dsimp only at hSw); go_simp; try with_reducible rfl)); simp only [Act.put, List.setIfInBounds_toArray, List.set_cons_zero, List.set_cons_succ]) | (refine Lone.ro_skip (by rfl) ?_; simp only [Act.put, List.setIfInBounds_toArray, List.set_cons_zero, List.set_cons_succ]))
                  refine Lone.ro_q (by rfl) (v := v1) (fun w' hSw => by simp only [execOp, Act.eval, List.getElem?_toArray, List.getElem?_cons_zero, List.getElem?_cons_succ, Array.getD_eq_getD_getElem?, Option.getD_some, Option.map_some, Option.map_none, Sem.run_bind, F1.out, Result.andThen, Sem.run_pure]) ?_; simp only [Act.put, List.setIfInBounds_toArray, List.set_cons_zero, List.set_cons_succ]
                  repeat (first | (refine Lone.ro_q (by rfl) (v := ?_) ?_ ?_; rotate_left; (focus (intro w' hSw; (try dsimp only at hSw); go_simp; try with_reducible rfl)); simp only [Act.put, List.setIfInBounds_toArray, List.set_cons_zero, List.set_cons_succ]) | (refine Lone.ro_skip (by rfl) ?_; simp only [Act.put, List.setIfInBounds_toArray, List.set_cons_zero, List.set_cons_succ]))
                  refine Lone.ro_q (by rfl) (v := v2) (fun w' hSw => by simp only [execOp, Act.eval, List.getElem?_toArray, List.getElem?_cons_zero, List.getElem?_cons_succ, Array.getD_eq_getD_getElem?, Option.getD_some, Option.map_some, Option.map_none, Sem.run_bind, F2.out, Result.andThen, Sem.run_pure]) ?_; simp only [Act.put, List.setIfInBounds_toArray, List.set_cons_zero, List.set_cons_succ]
                  clear c0 c1 c2 c3 c4 z3 z4
                  (refine Lone.ro_loud (by rfl) (fun K hK => ?_))
                  refine wp_append_rd ((.const (.slice none 0 0))) ((.tmp 85)) 23 rfl info_string Tryd.underlying23 rfl (by decide) (by decide) (World.ownsRow_nil _ _ _ _) ((Below.refl Z.heap.size Z).drew) (Nat.le_refl _) ((Below.refl Z.heap.size Z).drew).size (T1.out _ ((Below.refl Z.heap.size Z).drew)) (svs_one _) (by have := HL1.out; have := HL2.out; omega) rfl rfl ?_
                  intro u4 w4 ow4 b4
                  have q4 := (stp_cells (HG2.out _ b4)).2.2.2.2.1
                  (refine hK.out _ _ (fun w' => w'.cell? ⟨w.heap.size, 4, none⟩ = some (.slice af s.seals.length cf)) (.inl fun _ h => h) (q4) ?_; clear hK K; try simp only [Act.put, List.setIfInBounds_toArray, List.set_cons_zero, List.set_cons_succ])
                  (refine Lone.ro_loud (by rfl) (fun K hK => ?_); go_simp)
                  (with_reducible refine (seal_any key bd _ HBS.out HKS.out (HT8.out _ b4)).mono ?_)
                  rintro e w5 ⟨rfl, hb⟩
                  have b5 := b4.trans (hb.mono b4.size)
                  have ow5 := owns_below ow4 hb
                  have q4 := (stp_cells (HG2.out _ b5)).2.2.2.2.1
                  (refine hK.out _ _ (fun w' => w'.cell? ⟨w.heap.size, 4, none⟩ = some (.slice af s.seals.length cf)) (.inl fun _ h => h) (q4) ?_; clear hK K; try simp only [Act.put, List.setIfInBounds_toArray, List.set_cons_zero, List.set_cons_succ])
                  clear ow4 hb b4
                  (refine Lone.ro_loud (by rfl) (fun K hK => ?_); go_simp)
                  have ow6 := ow5.alloc (.cells #[.string (sealF key bd)] 9)
                  have r6 := rdS_one (heap_alloc_new w5 (.cells #[.string (sealF key bd)] 9))
                  have b6 := b5.alloc b5.size (.cells #[.string (sealF key bd)] 9)
                  have q4 := (stp_cells (HG2.out _ b6)).2.2.2.2.1
                  (refine hK.out _ _ (fun w' => w'.cell? ⟨w.heap.size, 4, none⟩ = some (.slice af s.seals.length cf)) (.inl fun _ h => h) (q4) ?_; clear hK K; try simp only [Act.put, List.setIfInBounds_toArray, List.set_cons_zero, List.set_cons_succ])
                  clear ow5 b5
                  (refine Lone.ro_loud (by rfl) (fun K hK => ?_))
                  refine wp_append_rd (.tmp 86) (.tmp 90) 23 rfl info_string Tryd.underlying23 rfl (by decide) (by decide) (ow6) (b6) (Nat.le_refl _) (b6).size (r6) ((fun y hy => by obtain rfl := List.mem_singleton.1 hy; rfl)) (by have := HL1.out; have := HL2.out; omega) rfl rfl ?_
                  intro v7 w7 ow7 b7
                  have q4 := (stp_cells (HG2.out _ b7)).2.2.2.2.1
                  (refine hK.out _ _ (fun w' => w'.cell? ⟨w.heap.size, 4, none⟩ = some (.slice af s.seals.length cf)) (.inl fun _ h => h) (q4) ?_; clear hK K; try simp only [Act.put, List.setIfInBounds_toArray, List.set_cons_zero, List.set_cons_succ])
                  clear ow6 b6 r6
                  (refine Lone.ro_loud (by rfl) (fun K hK => ?_))
                  refine wp_append_rd (.tmp 91) (.tmp 95) 23 rfl info_string Tryd.underlying23 rfl (by decide) (by decide) (ow7) (b7) (Nat.le_refl _) (b7).size (T2.out _ b7) (svs_one _) (by have := HL1.out; have := HL2.out; omega) rfl rfl ?_
                  intro v9 w9 ow9 b9
                  obtain ⟨q0, q1, q2, q3, q4, y3, y4⟩ := stp_cells (HG2.out _ b9)
                  (refine hK.out _ _ (fun w' => w'.cell? ⟨w.heap.size, 4, none⟩ = some (.slice af s.seals.length cf)) (.inl fun _ h => h) (q4) ?_; clear hK K; try simp only [Act.put, List.setIfInBounds_toArray, List.set_cons_zero, List.set_cons_succ])
                  rw [HLEN2.out, HSV.out] at ow9
                  obtain ⟨a9, k9, rfl⟩ := rd_form (rdS_owns ow9)
                  repeat (first | (refine Lone.ro_q (by rfl) (v := ?_) ?_ ?_; rotate_left; (focus (intro w' hSw; (try dsimp only at hSw); go_simp; try with_reducible rfl)); simp only [Act.put, List.setIfInBounds_toArray, List.set_cons_zero, List.set_cons_succ]) | (refine Lone.ro_skip (by rfl) ?_; simp only [Act.put, List.setIfInBounds_toArray, List.set_cons_zero, List.set_cons_succ]))
                  (refine Lone.ro_loud (by rfl) (fun K hK => ?_); go_simp)
                  (refine hK.out _ _ (fun _ => True) (.inr (by kernel_rfl)) trivial ?_; clear hK K; try simp only [Act.put, List.setIfInBounds_toArray, List.set_cons_zero, List.set_cons_succ])
                  refine Lone.ro_nil ?_
                  have H9 := Lib.hid (rowAt_mk2 (s := s) (HG2.out _ b9) (HG3.out _ b9) HE8.out HZ8.out b9 (owns_below HW8.out b9) ow9 HGL8)
                  obtain ⟨Y, hY⟩ : ∃ Y, w9.setCell ⟨w.heap.size, 4, none⟩ (.slice a9 M.length k9) = Y := ⟨_, rfl⟩
                  rw [hY] at H9
                  try rw [hY]
                  clear hY b9 ow9 ow7 b7 q0 q1 q2 q3 q4 y3 y4
                  obtain ⟨HN9, HO9, HI9, HS9, HE9⟩ := H9.out
                  obtain ⟨c0, c1, c2, c3, c4, z3, z4⟩ := stp_cells HN9
                  have HIH := Lib.hid HI9
                  have HSH := Lib.hid HS9
                  have HEH := Lib.hid HE9
                  clear HN9 HI9 HS9 HE9
                  go_wp2_with (refine wpList_store_blk (by rfl) 25 (.tmp 8) (.tmp 98) rfl (w.heap.size + 1) #[.string s.ref, .string s.old, .string s.new, .slice a8 N.length k8, .slice a9 M.length k9] rfl rfl HO9 (by kernel_rfl) rfl (by simp [Value.oneCell']) ?_; intro wz hgz huz)
                  obtain ⟨e0, e1, e2, e3, e4, _, _⟩ := stp_cells hgz
                  refine bodyPost_ret (v := .tuple #[.agg #[.string s.ref, .string s.old, .string s.new, .slice a8 N.length k8, .slice a9 M.length k9], .int .i64 0]) ?_ rfl ⟨.slice a8 N.length k8, .slice a9 M.length k9, rfl, owns_base (owns_updN HIH.out huz (fun k hk => by subst hk; have := HGE.out; omega)) HBW.out.size, owns_base (owns_updN HSH.out huz (fun k hk => by subst hk; have := HGE.out; omega)) HBW.out.size, below_upd HEH.out huz (Nat.le_succ _) HEH.out.size⟩
                  simp [results, Tryd.f11, go_sem, e0, e1, e2, e3, e4])
          · have hkk : kk = k := by have := HKL.out; omega
            subst hkk
            have hkl : decide ((kk : Int) < (s.who.length : Int)) = false := decide_eq_false (by omega)
            have HTW := Lib.hid (show ¬ s.who[whoK who s.who]? = some who by rw [← HKK.out, List.getElem?_eq_none (by omega)]; simp)
            have hF := HF.out.trans (signF_5 HG0S.out HBDS.out HRG.out HTW.out)
            rw [← HBDD.out, ← HKK.out, ← HNM.out.1, ← HNM.out.2] at hF
            subst hF
            have HK2 := Lib.hid (show kk ≤ s.who.length ∧ kk ≤ s.seals.length by have h1 := HKL.out; have h2 := HLE.out; omega)
            obtain ⟨v1, hv1, r1⟩ := rdI_to (HWR.out W (Below.refl _ _)) kk HK2.out.1
            obtain ⟨v2, hv2, r2⟩ := rdI_from (HWR.out W (Below.refl _ _)) kk HK2.out.1
            have E1 := Lib.hid hv1
            have E2 := Lib.hid hv2
            have R1 := Lib.hid (fun w' (h : Below W.heap.size W w') => r1.below h)
            have R2 := Lib.hid (fun w' (h : Below W.heap.size W w') => r2.below h)
            have HL1 := Lib.hid (show (s.who.take kk).length ≤ 8 ∧ (s.seals.take kk).length ≤ 8 by have h1 := HLE.out; rw [List.length_take, List.length_take]; omega)
            have HL2 := Lib.hid (show (s.who.drop kk).length ≤ 8 ∧ (s.seals.drop kk).length ≤ 8 by have h1 := HLE.out; rw [List.length_drop, List.length_drop]; omega)
            have HLEN := Lib.hid (show 0 + (s.who.take kk).length + 1 + (s.who.drop kk).length = N.length by rw [HNM.out.1]; simp [insW]; omega)
            have HIV := Lib.hid (show [] ++ ivs (s.who.take kk) ++ [Value.int .i64 who] ++ ivs (s.who.drop kk) = ivs N by rw [HNM.out.1]; simp [insW, ivs])
            have HLEN2 := Lib.hid (show 0 + (s.seals.take kk).length + 1 + (s.seals.drop kk).length = M.length by rw [HNM.out.2]; simp [insW]; omega)
            have HSV := Lib.hid (show [] ++ svs (s.seals.take kk) ++ [Value.string (sealF key bd)] ++ svs (s.seals.drop kk) = svs M by rw [HNM.out.2]; simp [insW, svs])
            clear hv1 hv2 r1 r2
            go_wp2_with fail
            refine Twin.wp_region_order (.q 0 (.q 1 (.q 2 (.q 3 (.q 5 (.q 8 (.q 9 (.q 10 (.q 11 (.l2 4 6 (.l 6 (.l 7 (.l 12 (.q 13 (.l 14 .nil))))) (.l 4 (.l 7 (.l 12 (.q 13 (.l 14 .nil))))))))))))))) (fun w' => w'.cell? ⟨w.heap.size, 3, none⟩ = some (.slice ae s.who.length ce)) (by kernel_rfl) (by kernel_rfl) rfl (by kernel_rfl) (by intro _ _ d _ _ h; cases d <;> exact h) (c3) ?_; simp only [Twin.Ord.opers, List.getElem?_toArray, List.getElem?_cons_zero, List.getElem?_cons_succ, Option.getD_some]
            repeat (first | (refine Twin.ro_q (by rfl) (v := ?_) ?_ ?_; rotate_left; (focus (intro w' hSw; (try dsimp only at hSw); go_simp; try with_reducible rfl)); simp only [Act.put, List.setIfInBounds_toArray, List.set_cons_zero, List.set_cons_succ]) | (refine Twin.ro_skip (by rfl) ?_; simp only [Act.put, List.setIfInBounds_toArray, List.set_cons_zero, List.set_cons_succ]))
            refine Twin.ro_q (by rfl) (v := v1) (fun w' hSw => by simp only [execOp, Act.eval, List.getElem?_toArray, List.getElem?_cons_zero, List.getElem?_cons_succ, Array.getD_eq_getD_getElem?, Option.getD_some, Option.map_some, Option.map_none, Sem.run_bind, E1.out, Result.andThen, Sem.run_pure]) ?_; simp only [Act.put, List.setIfInBounds_toArray, List.set_cons_zero, List.set_cons_succ]
            repeat (first | (refine Twin.ro_q (by rfl) (v := ?_) ?_ ?_; rotate_left; (focus (intro w' hSw; (try dsimp only at hSw); go_simp; try with_reducible rfl)); simp only [Act.put, List.setIfInBounds_toArray, List.set_cons_zero, List.set_cons_succ]) | (refine Twin.ro_skip (by rfl) ?_; simp only [Act.put, List.setIfInBounds_toArray, List.set_cons_zero, List.set_cons_succ]))
            refine Twin.ro_q (by rfl) (v := v2) (fun w' hSw => by simp only [execOp, Act.eval, List.getElem?_toArray, List.getElem?_cons_zero, List.getElem?_cons_succ, Array.getD_eq_getD_getElem?, Option.getD_some, Option.map_some, Option.map_none, Sem.run_bind, E2.out, Result.andThen, Sem.run_pure]) ?_; simp only [Act.put, List.setIfInBounds_toArray, List.set_cons_zero, List.set_cons_succ]
            repeat (first | (refine Twin.ro_q (by rfl) (v := ?_) ?_ ?_; rotate_left; (focus (intro w' hSw; (try dsimp only at hSw); go_simp; try with_reducible rfl)); simp only [Act.put, List.setIfInBounds_toArray, List.set_cons_zero, List.set_cons_succ]) | (refine Twin.ro_skip (by rfl) ?_; simp only [Act.put, List.setIfInBounds_toArray, List.set_cons_zero, List.set_cons_succ]))
            clear c0 c1 c2 c3 c4 z3 z4
            refine Twin.ro_two ?_ ?_
            focus (
              skip
              (refine Twin.ro_loud (by rfl) (fun K hK => ?_))
              refine wp_append_rd ((.const (.slice none 0 0))) ((.tmp 71)) 22 rfl info_int Tryd.underlying22 rfl (by decide) (by decide) (World.ownsRow_nil _ _ _ _) (HB9.out.drew) (Nat.le_refl _) (HB9.out.drew).size (R1.out _ HB9.out.drew) (ivs_one _) (by have := HL1.out; have := HL2.out; omega) rfl rfl ?_
              intro v4 w4 ow4 b4
              have q3 := (stp_cells (HG0.out _ b4)).2.2.2.1
              (refine hK.out _ _ (fun w' => w'.cell? ⟨w.heap.size, 3, none⟩ = some (.slice ae s.who.length ce)) (.inl fun _ h => h) (q3) ?_; clear hK K; try simp only [Act.put, List.setIfInBounds_toArray, List.set_cons_zero, List.set_cons_succ])
              (refine Twin.ro_loud (by rfl) (fun K hK => ?_); go_simp)
              have ow6 := ow4.alloc (.cells #[.int .i64 who] 3)
              have r6 := rdI_one (heap_alloc_new w4 (.cells #[.int .i64 who] 3))
              have b6 := b4.alloc b4.size (.cells #[.int .i64 who] 3)
              have q3 := (stp_cells (HG0.out _ b6)).2.2.2.1
              (refine hK.out _ _ (fun w' => w'.cell? ⟨w.heap.size, 3, none⟩ = some (.slice ae s.who.length ce)) (.inl fun _ h => h) (q3) ?_; clear hK K; try simp only [Act.put, List.setIfInBounds_toArray, List.set_cons_zero, List.set_cons_succ])
              clear ow4 b4
              (refine Twin.ro_loud (by rfl) (fun K hK => ?_))
              refine wp_append_rd (.tmp 72) (.tmp 74) 22 rfl info_int Tryd.underlying22 rfl (by decide) (by decide) (ow6) (b6) (Nat.le_refl _) (b6).size (r6) ((fun y hy => by obtain rfl := List.mem_singleton.1 hy; rfl)) (by have := HL1.out; have := HL2.out; omega) rfl rfl ?_
              intro v7 w7 ow7 b7
              have q3 := (stp_cells (HG0.out _ b7)).2.2.2.1
              (refine hK.out _ _ (fun w' => w'.cell? ⟨w.heap.size, 3, none⟩ = some (.slice ae s.who.length ce)) (.inl fun _ h => h) (q3) ?_; clear hK K; try simp only [Act.put, List.setIfInBounds_toArray, List.set_cons_zero, List.set_cons_succ])
              clear ow6 b6 r6
              (refine Twin.ro_loud (by rfl) (fun K hK => ?_))
              refine wp_append_rd (.tmp 75) (.tmp 79) 22 rfl info_int Tryd.underlying22 rfl (by decide) (by decide) (ow7) (b7) (Nat.le_refl _) (b7).size (R2.out _ b7) (ivs_one _) (by have := HL1.out; have := HL2.out; omega) rfl rfl ?_
              intro v8 w8 ow8 b8
              obtain ⟨q0, q1, q2, q3, q4, y3, y4⟩ := stp_cells (HG0.out _ b8)
              (refine hK.out _ _ (fun w' => w'.cell? ⟨w.heap.size, 3, none⟩ = some (.slice ae s.who.length ce)) (.inl fun _ h => h) (q3) ?_; clear hK K; try simp only [Act.put, List.setIfInBounds_toArray, List.set_cons_zero, List.set_cons_succ])
              rw [HLEN.out, HIV.out] at ow8
              obtain ⟨a8, k8, rfl⟩ := rd_form (rdI_owns ow8)
              repeat (first | (refine Twin.ro_q (by rfl) (v := ?_) ?_ ?_; rotate_left; (focus (intro w' hSw; (try dsimp only at hSw); go_simp; try with_reducible rfl)); simp only [Act.put, List.setIfInBounds_toArray, List.set_cons_zero, List.set_cons_succ]) | (refine Twin.ro_skip (by rfl) ?_; simp only [Act.put, List.setIfInBounds_toArray, List.set_cons_zero, List.set_cons_succ]))
              (refine Twin.ro_loud (by rfl) (fun K hK => ?_); go_simp)
              (refine hK.out _ _ (fun _ => True) (.inr (by kernel_rfl)) trivial ?_; clear hK K; try simp only [Act.put, List.setIfInBounds_toArray, List.set_cons_zero, List.set_cons_succ])
              refine Twin.ro_nil ?_
              have H8 := Lib.hid (rowAt_mk (s := s) (HG0.out _ b8) (HG1.out _ b8) HBW.out b8 ow8 HGE.out)
              obtain ⟨Z, hZ⟩ : ∃ Z, w8.setCell ⟨w.heap.size, 3, none⟩ (.slice a8 N.length k8) = Z := ⟨_, rfl⟩
              rw [hZ] at H8
              try rw [hZ]
              clear hZ b8 ow8 ow7 b7 q0 q1 q2 q3 q4 y3 y4)
            rotate_left
            focus (
              skip
              (refine Twin.ro_loud (by rfl) (fun K hK => ?_); go_simp)
              have b5 := HB9.out.drew.alloc HB9.out.drew.size (.cells #[.int .i64 who] 3)
              have g5 := rdI_one (heap_alloc_new wr.drew (.cells #[.int .i64 who] 3))
              have q3 := (stp_cells (HG0.out _ b5)).2.2.2.1
              (refine hK.out _ _ (fun w' => w'.cell? ⟨w.heap.size, 3, none⟩ = some (.slice ae s.who.length ce)) (.inl fun _ h => h) (q3) ?_; clear hK K; try simp only [Act.put, List.setIfInBounds_toArray, List.set_cons_zero, List.set_cons_succ])
              (refine Twin.ro_loud (by rfl) (fun K hK => ?_))
              refine wp_append_rd ((.const (.slice none 0 0))) ((.tmp 71)) 22 rfl info_int Tryd.underlying22 rfl (by decide) (by decide) (World.ownsRow_nil _ _ _ _) (Below.refl ((wr.drew.alloc (.cells #[.int .i64 who] 3))).heap.size (wr.drew.alloc (.cells #[.int .i64 who] 3))) (Nat.le_refl _) (Below.refl ((wr.drew.alloc (.cells #[.int .i64 who] 3))).heap.size (wr.drew.alloc (.cells #[.int .i64 who] 3))).size (R1.out _ b5) (ivs_one _) (by have := HL1.out; have := HL2.out; omega) rfl rfl ?_
              intro v4 w6 ow4 b4
              have b6 := b5.trans (b4.mono b5.size)
              have ow6 := owns_base ow4 b5.size
              have r6 := rdRow.below g5 b4
              have q3 := (stp_cells (HG0.out _ b6)).2.2.2.1
              (refine hK.out _ _ (fun w' => w'.cell? ⟨w.heap.size, 3, none⟩ = some (.slice ae s.who.length ce)) (.inl fun _ h => h) (q3) ?_; clear hK K; try simp only [Act.put, List.setIfInBounds_toArray, List.set_cons_zero, List.set_cons_succ])
              clear ow4 b4 b5 g5
              (refine Twin.ro_loud (by rfl) (fun K hK => ?_))
              refine wp_append_rd (.tmp 72) (.tmp 74) 22 rfl info_int Tryd.underlying22 rfl (by decide) (by decide) (ow6) (b6) (Nat.le_refl _) (b6).size (r6) ((fun y hy => by obtain rfl := List.mem_singleton.1 hy; rfl)) (by have := HL1.out; have := HL2.out; omega) rfl rfl ?_
              intro v7 w7 ow7 b7
              have q3 := (stp_cells (HG0.out _ b7)).2.2.2.1
              (refine hK.out _ _ (fun w' => w'.cell? ⟨w.heap.size, 3, none⟩ = some (.slice ae s.who.length ce)) (.inl fun _ h => h) (q3) ?_; clear hK K; try simp only [Act.put, List.setIfInBounds_toArray, List.set_cons_zero, List.set_cons_succ])
              clear ow6 b6 r6
              (refine Twin.ro_loud (by rfl) (fun K hK => ?_))
              refine wp_append_rd (.tmp 75) (.tmp 79) 22 rfl info_int Tryd.underlying22 rfl (by decide) (by decide) (ow7) (b7) (Nat.le_refl _) (b7).size (R2.out _ b7) (ivs_one _) (by have := HL1.out; have := HL2.out; omega) rfl rfl ?_
              intro v8 w8 ow8 b8
              obtain ⟨q0, q1, q2, q3, q4, y3, y4⟩ := stp_cells (HG0.out _ b8)
              (refine hK.out _ _ (fun w' => w'.cell? ⟨w.heap.size, 3, none⟩ = some (.slice ae s.who.length ce)) (.inl fun _ h => h) (q3) ?_; clear hK K; try simp only [Act.put, List.setIfInBounds_toArray, List.set_cons_zero, List.set_cons_succ])
              rw [HLEN.out, HIV.out] at ow8
              obtain ⟨a8, k8, rfl⟩ := rd_form (rdI_owns ow8)
              repeat (first | (refine Twin.ro_q (by rfl) (v := ?_) ?_ ?_; rotate_left; (focus (intro w' hSw; (try dsimp only at hSw); go_simp; try with_reducible rfl)); simp only [Act.put, List.setIfInBounds_toArray, List.set_cons_zero, List.set_cons_succ]) | (refine Twin.ro_skip (by rfl) ?_; simp only [Act.put, List.setIfInBounds_toArray, List.set_cons_zero, List.set_cons_succ]))
              (refine Twin.ro_loud (by rfl) (fun K hK => ?_); go_simp)
              (refine hK.out _ _ (fun _ => True) (.inr (by kernel_rfl)) trivial ?_; clear hK K; try simp only [Act.put, List.setIfInBounds_toArray, List.set_cons_zero, List.set_cons_succ])
              refine Twin.ro_nil ?_
              have H8 := Lib.hid (rowAt_mk (s := s) (HG0.out _ b8) (HG1.out _ b8) HBW.out b8 ow8 HGE.out)
              obtain ⟨Z, hZ⟩ : ∃ Z, w8.setCell ⟨w.heap.size, 3, none⟩ (.slice a8 N.length k8) = Z := ⟨_, rfl⟩
              rw [hZ] at H8
              try rw [hZ]
              clear hZ b8 ow8 ow7 b7 q0 q1 q2 q3 q4 y3 y4)
            all_goals (
              obtain ⟨HN8, HO8, HOW8, HBE8, HSZ8, HGL8⟩ := H8.out
              have HG2 := Lib.hid (fun wr (h : Below Z.heap.size Z wr) => blk_below HN8 h)
              have HG3 := Lib.hid (fun wr (h : Below Z.heap.size Z wr) => blk_below HO8 h)
              have HT8 := Lib.hid (fun wr (h : Below Z.heap.size Z wr) => HT.out.below (HBE8.trans (h.mono HBE8.size)))
              have RS := Lib.hid (fun wr (h : Below Z.heap.size Z wr) => HS.out.below (HBE8.trans (h.mono HBE8.size)))
              obtain ⟨v1, hv1, r1⟩ := rdS_to (RS.out Z (Below.refl _ _)) kk (by have := HK2.out; omega)
              obtain ⟨v2, hv2, r2⟩ := rdS_from (RS.out Z (Below.refl _ _)) kk (by have := HK2.out; omega)
              have F1 := Lib.hid hv1
              have F2 := Lib.hid hv2
              have T1 := Lib.hid (fun wr (h : Below Z.heap.size Z wr) => rdS.below r1 h)
              have T2 := Lib.hid (fun wr (h : Below Z.heap.size Z wr) => rdS.below r2 h)
              have HW8 := Lib.hid HOW8
              have HE8 := Lib.hid HBE8
              have HZ8 := Lib.hid HSZ8
              clear hv1 hv2 r1 r2 HOW8 HBE8 HSZ8
              obtain ⟨c0, c1, c2, c3, c4, z3, z4⟩ := stp_cells (HG2.out _ (Below.refl _ _).drew)
              clear HN8 HO8
              go_wp2_with fail
              refine Lone.wp_region_order [(0, false), (1, false), (2, false), (3, false), (5, false), (6, false), (10, false), (11, false), (12, false), (13, false), (4, true), (7, true), (8, true), (9, true), (14, true), (15, false), (16, true)] (fun w' => w'.cell? ⟨w.heap.size, 4, none⟩ = some (.slice af s.seals.length cf)) (by kernel_rfl) (by kernel_rfl) rfl (by kernel_rfl) (by intro _ _ d _ _ h; cases d <;> exact h) (c4) ?_; simp only [List.map_cons, List.map_nil, List.getElem?_toArray, List.getElem?_cons_zero, List.getElem?_cons_succ, Option.getD_some]
              repeat (first | (refine Lone.ro_q (by rfl) (v := ?_) ?_ ?_; rotate_left; (focus (intro w' hSw; (try dsimp only at hSw); go_simp; try with_reducible rfl)); simp only [Act.put, List.setIfInBounds_toArray, List.set_cons_zero, List.set_cons_succ]) | (refine Lone.ro_skip (by rfl) ?_; simp only [Act.put, List.setIfInBounds_toArray, List.set_cons_zero, List.set_cons_succ]))
              refine Lone.ro_q (by rfl) (v := v1) (fun w' hSw => by simp only [execOp, Act.eval, List.getElem?_toArray, List.getElem?_cons_zero, List.getElem?_cons_succ, Array.getD_eq_getD_getElem?, Option.getD_some, Option.map_some, Option.map_none, Sem.run_bind, F1.out, Result.andThen, Sem.run_pure]) ?_; simp only [Act.put, List.setIfInBounds_toArray, List.set_cons_zero, List.set_cons_succ]
              repeat (first | (refine Lone.ro_q (by rfl) (v := ?_) ?_ ?_; rotate_left; (focus (intro w' hSw; (try dsimp only at hSw); go_simp; try with_reducible rfl)); simp only [Act.put, List.setIfInBounds_toArray, List.set_cons_zero, List.set_cons_succ]) | (refine Lone.ro_skip (by rfl) ?_; simp only [Act.put, List.setIfInBounds_toArray, List.set_cons_zero, List.set_cons_succ]))
              refine Lone.ro_q (by rfl) (v := v2) (fun w' hSw => by simp only [execOp, Act.eval, List.getElem?_toArray, List.getElem?_cons_zero, List.getElem?_cons_succ, Array.getD_eq_getD_getElem?, Option.getD_some, Option.map_some, Option.map_none, Sem.run_bind, F2.out, Result.andThen, Sem.run_pure]) ?_; simp only [Act.put, List.setIfInBounds_toArray, List.set_cons_zero, List.set_cons_succ]
              clear c0 c1 c2 c3 c4 z3 z4
              (refine Lone.ro_loud (by rfl) (fun K hK => ?_))
              refine wp_append_rd ((.const (.slice none 0 0))) ((.tmp 85)) 23 rfl info_string Tryd.underlying23 rfl (by decide) (by decide) (World.ownsRow_nil _ _ _ _) ((Below.refl Z.heap.size Z).drew) (Nat.le_refl _) ((Below.refl Z.heap.size Z).drew).size (T1.out _ ((Below.refl Z.heap.size Z).drew)) (svs_one _) (by have := HL1.out; have := HL2.out; omega) rfl rfl ?_
              intro u4 w4 ow4 b4
              have q4 := (stp_cells (HG2.out _ b4)).2.2.2.2.1
              (refine hK.out _ _ (fun w' => w'.cell? ⟨w.heap.size, 4, none⟩ = some (.slice af s.seals.length cf)) (.inl fun _ h => h) (q4) ?_; clear hK K; try simp only [Act.put, List.setIfInBounds_toArray, List.set_cons_zero, List.set_cons_succ])
              (refine Lone.ro_loud (by rfl) (fun K hK => ?_); go_simp)
              (with_reducible refine (seal_any key bd _ HBS.out HKS.out (HT8.out _ b4)).mono ?_)
              rintro e w5 ⟨rfl, hb⟩
              have b5 := b4.trans (hb.mono b4.size)
              have ow5 := owns_below ow4 hb
              have q4 := (stp_cells (HG2.out _ b5)).2.2.2.2.1
              (refine hK.out _ _ (fun w' => w'.cell? ⟨w.heap.size, 4, none⟩ = some (.slice af s.seals.length cf)) (.inl fun _ h => h) (q4) ?_; clear hK K; try simp only [Act.put, List.setIfInBounds_toArray, List.set_cons_zero, List.set_cons_succ])
              clear ow4 hb b4
              (refine Lone.ro_loud (by rfl) (fun K hK => ?_); go_simp)
              have ow6 := ow5.alloc (.cells #[.string (sealF key bd)] 9)
              have r6 := rdS_one (heap_alloc_new w5 (.cells #[.string (sealF key bd)] 9))
              have b6 := b5.alloc b5.size (.cells #[.string (sealF key bd)] 9)
              have q4 := (stp_cells (HG2.out _ b6)).2.2.2.2.1
              (refine hK.out _ _ (fun w' => w'.cell? ⟨w.heap.size, 4, none⟩ = some (.slice af s.seals.length cf)) (.inl fun _ h => h) (q4) ?_; clear hK K; try simp only [Act.put, List.setIfInBounds_toArray, List.set_cons_zero, List.set_cons_succ])
              clear ow5 b5
              (refine Lone.ro_loud (by rfl) (fun K hK => ?_))
              refine wp_append_rd (.tmp 86) (.tmp 90) 23 rfl info_string Tryd.underlying23 rfl (by decide) (by decide) (ow6) (b6) (Nat.le_refl _) (b6).size (r6) ((fun y hy => by obtain rfl := List.mem_singleton.1 hy; rfl)) (by have := HL1.out; have := HL2.out; omega) rfl rfl ?_
              intro v7 w7 ow7 b7
              have q4 := (stp_cells (HG2.out _ b7)).2.2.2.2.1
              (refine hK.out _ _ (fun w' => w'.cell? ⟨w.heap.size, 4, none⟩ = some (.slice af s.seals.length cf)) (.inl fun _ h => h) (q4) ?_; clear hK K; try simp only [Act.put, List.setIfInBounds_toArray, List.set_cons_zero, List.set_cons_succ])
              clear ow6 b6 r6
              (refine Lone.ro_loud (by rfl) (fun K hK => ?_))
              refine wp_append_rd (.tmp 91) (.tmp 95) 23 rfl info_string Tryd.underlying23 rfl (by decide) (by decide) (ow7) (b7) (Nat.le_refl _) (b7).size (T2.out _ b7) (svs_one _) (by have := HL1.out; have := HL2.out; omega) rfl rfl ?_
              intro v9 w9 ow9 b9
              obtain ⟨q0, q1, q2, q3, q4, y3, y4⟩ := stp_cells (HG2.out _ b9)
              (refine hK.out _ _ (fun w' => w'.cell? ⟨w.heap.size, 4, none⟩ = some (.slice af s.seals.length cf)) (.inl fun _ h => h) (q4) ?_; clear hK K; try simp only [Act.put, List.setIfInBounds_toArray, List.set_cons_zero, List.set_cons_succ])
              rw [HLEN2.out, HSV.out] at ow9
              obtain ⟨a9, k9, rfl⟩ := rd_form (rdS_owns ow9)
              repeat (first | (refine Lone.ro_q (by rfl) (v := ?_) ?_ ?_; rotate_left; (focus (intro w' hSw; (try dsimp only at hSw); go_simp; try with_reducible rfl)); simp only [Act.put, List.setIfInBounds_toArray, List.set_cons_zero, List.set_cons_succ]) | (refine Lone.ro_skip (by rfl) ?_; simp only [Act.put, List.setIfInBounds_toArray, List.set_cons_zero, List.set_cons_succ]))
              (refine Lone.ro_loud (by rfl) (fun K hK => ?_); go_simp)
              (refine hK.out _ _ (fun _ => True) (.inr (by kernel_rfl)) trivial ?_; clear hK K; try simp only [Act.put, List.setIfInBounds_toArray, List.set_cons_zero, List.set_cons_succ])
              refine Lone.ro_nil ?_
              have H9 := Lib.hid (rowAt_mk2 (s := s) (HG2.out _ b9) (HG3.out _ b9) HE8.out HZ8.out b9 (owns_below HW8.out b9) ow9 HGL8)
              obtain ⟨Y, hY⟩ : ∃ Y, w9.setCell ⟨w.heap.size, 4, none⟩ (.slice a9 M.length k9) = Y := ⟨_, rfl⟩
              rw [hY] at H9
              try rw [hY]
              clear hY b9 ow9 ow7 b7 q0 q1 q2 q3 q4 y3 y4
              obtain ⟨HN9, HO9, HI9, HS9, HE9⟩ := H9.out
              obtain ⟨c0, c1, c2, c3, c4, z3, z4⟩ := stp_cells HN9
              have HIH := Lib.hid HI9
              have HSH := Lib.hid HS9
              have HEH := Lib.hid HE9
              clear HN9 HI9 HS9 HE9
              go_wp2_with (refine wpList_store_blk (by rfl) 25 (.tmp 8) (.tmp 98) rfl (w.heap.size + 1) #[.string s.ref, .string s.old, .string s.new, .slice a8 N.length k8, .slice a9 M.length k9] rfl rfl HO9 (by kernel_rfl) rfl (by simp [Value.oneCell']) ?_; intro wz hgz huz)
              obtain ⟨e0, e1, e2, e3, e4, _, _⟩ := stp_cells hgz
              refine bodyPost_ret (v := .tuple #[.agg #[.string s.ref, .string s.old, .string s.new, .slice a8 N.length k8, .slice a9 M.length k9], .int .i64 0]) ?_ rfl ⟨.slice a8 N.length k8, .slice a9 M.length k9, rfl, owns_base (owns_updN HIH.out huz (fun k hk => by subst hk; have := HGE.out; omega)) HBW.out.size, owns_base (owns_updN HSH.out huz (fun k hk => by subst hk; have := HGE.out; omega)) HBW.out.size, below_upd HEH.out huz (Nat.le_succ _) HEH.out.size⟩
              simp [results, Tryd.f11, go_sem, e0, e1, e2, e3, e4])
    · have hF := HF.out.trans (signF_2 HG0S.out (fun e => hbz (heb.trans e)))
      rw [← heb] at hF
      subst hF
      have n1 : (eb == 0) = false := beq_eq_false_iff_ne.2 hbz
      have n2 : (eb != 0) = true := by rw [bne, n1]; rfl
      clear heb hbz
      go_enter Tryd.func11, Tryd.ntmps11
      go_wp2_with fail
      (with_reducible refine HGD.out.mono ?_)
      rintro e w1 ⟨rfl, hb⟩
      have HB1 := Lib.hid hb
      clear hb c0 c1 c2 c3 c4 z3 z4
      obtain ⟨c0, c1, c2, c3, c4, z3, z4⟩ := stp_cells (HG0.out _ HB1.out)
      go_wp2_with fail
      (with_reducible refine (HBD.out w1).mono ?_)
      rintro e w2 ⟨rfl, hb⟩
      have HB2 := Lib.hid (HB1.out.trans (hb.mono HB1.out.size))
      clear hb c0 c1 c2 c3 c4 z3 z4
      obtain ⟨c0, c1, c2, c3, c4, z3, z4⟩ := stp_cells (HG0.out _ HB2.out)
      go_wp2_with (refine wpList_store_blk (by rfl) 25 (.tmp 8) (.tmp 28) rfl (w.heap.size + 1) #[.string ⟨#[]⟩, .string ⟨#[]⟩, .string ⟨#[]⟩, .slice none 0 0, .slice none 0 0] rfl rfl (HG1.out _ HB2.out) (by kernel_rfl) rfl (by simp [Value.oneCell']) ?_; intro wz hgz huz)
      obtain ⟨e0, e1, e2, e3, e4, _, _⟩ := stp_cells hgz
      refine bodyPost_ret (v := .tuple #[.agg #[.string ⟨#[]⟩, .string ⟨#[]⟩, .string ⟨#[]⟩, .slice none 0 0, .slice none 0 0], .int .i64 (eb)]) ?_ rfl ⟨.slice none 0 0, .slice none 0 0, rfl, World.ownsRow_nil _ _ _ _, World.ownsRow_nil _ _ _ _, below_upd (HBW.out.trans (HB2.out.mono HBW.out.size)) huz (Nat.le_succ _) (Nat.le_trans HBW.out.size HB2.out.size)⟩
      simp [results, Tryd.f11, go_sem, e0, e1, e2, e3, e4]
  · have hF := HF.out.trans (signF_1 (fun e => hgz (heg.trans e)))
    rw [← heg] at hF
    subst hF
    have n1 : (eg == 0) = false := beq_eq_false_iff_ne.2 hgz
    have n2 : (eg != 0) = true := by rw [bne, n1]; rfl
    clear heg hgz
    go_enter Tryd.func11, Tryd.ntmps11
    go_wp2_with fail
    (with_reducible refine HGD.out.mono ?_)
    rintro e w1 ⟨rfl, hb⟩
    have HB1 := Lib.hid hb
    clear hb c0 c1 c2 c3 c4 z3 z4
    obtain ⟨c0, c1, c2, c3, c4, z3, z4⟩ := stp_cells (HG0.out _ HB1.out)
    go_wp2_with (refine wpList_store_blk (by rfl) 25 (.tmp 8) (.tmp 18) rfl (w.heap.size + 1) #[.string ⟨#[]⟩, .string ⟨#[]⟩, .string ⟨#[]⟩, .slice none 0 0, .slice none 0 0] rfl rfl (HG1.out _ HB1.out) (by kernel_rfl) rfl (by simp [Value.oneCell']) ?_; intro wz hgz huz)
    obtain ⟨e0, e1, e2, e3, e4, _, _⟩ := stp_cells hgz
    refine bodyPost_ret (v := .tuple #[.agg #[.string ⟨#[]⟩, .string ⟨#[]⟩, .string ⟨#[]⟩, .slice none 0 0, .slice none 0 0], .int .i64 (eg)]) ?_ rfl ⟨.slice none 0 0, .slice none 0 0, rfl, World.ownsRow_nil _ _ _ _, World.ownsRow_nil _ _ _ _, below_upd (HBW.out.trans (HB1.out.mono HBW.out.size)) huz (Nat.le_succ _) (Nat.le_trans HBW.out.size HB1.out.size)⟩
    simp [results, Tryd.f11, go_sem, e0, e1, e2, e3, e4]
end Go.Proofs.YtinhjnbgblieeaaDoor
