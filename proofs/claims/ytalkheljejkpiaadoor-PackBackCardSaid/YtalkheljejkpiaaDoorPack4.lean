/- The walk of package pack's Read. -/
import Derived.Test.YtalkheljejkpiaaDoorPack3
namespace Go.Proofs.YtalkheljejkpiaaDoor
open Go.RowKit Go.Maps
set_option linter.unusedVariables false
set_option linter.unusedSimpArgs false

theorem stepF_inl {base : ByteArray} {will : Nat} {st : ByteArray} {l : List UInt8} {r : ByteArray × Int} (h : stepF base will st l = .inl r) : r.1 = noB := by
  have he : ∀ {n : Nat} {s : ByteArray × Int} {l : List UInt8}, endS will n s l = .inl r → r.1 = noB := by
    intro n s l h
    unfold endS at h
    split at h
    · injection h with h; subst h; rfl
    · cases h
  unfold stepF at h
  split at h
  · exact he h
  · split at h
    · injection h with h; subst h; rfl
    · exact he h
theorem applyL_size (base : ByteArray) (will : Nat) : ∀ (n : Nat) (st : ByteArray) (l : List UInt8), st.size ≤ n → (applyL base will st l).1.size ≤ will := by
  intro n
  induction n with
  | zero =>
    intro st l h
    rw [applyL_end (by omega)]
    split
    · next h => show (⟨l.toArray⟩ : ByteArray).size ≤ will; rw [← toList_length]; show l.length ≤ will; omega
    · exact Nat.zero_le _
  | succ n ih =>
    intro st l h
    by_cases h0 : 0 < st.size
    · cases hs : stepF base will st l with
      | inl r => rw [applyL_out h0 hs, stepF_inl hs]; exact Nat.zero_le _
      | inr p => rw [applyL_step h0 hs]; exact ih _ _ (by have := (stepF_inr hs).1; omega)
    · rw [applyL_end (by omega)]
      split
      · next h => show (⟨l.toArray⟩ : ByteArray).size ≤ will; rw [← toList_length]; show l.length ≤ will; omega
      · exact Nat.zero_le _
theorem applyF_size (base d : ByteArray) : (applyF base d).1.size ≤ 8192 := by
  unfold applyF
  split
  · exact Nat.zero_le _
  · split
    · exact Nat.zero_le _
    · split
      · exact Nat.zero_le _
      · next h => exact Nat.le_trans (applyL_size _ _ _ _ _ (Nat.le_refl _)) (by omega)
section
variable {st : ByteArray × Int} {l : List ByteArray} {deep : List Nat} {f : ByteArray → Option ByteArray}
theorem oneD_size (base : ByteArray) (depth : Nat) (st : ByteArray × Int) : (oneD base depth st).1.1.size ≤ 8192 ∧ (oneD base depth st).2.1.size ≤ st.1.size := by
  unfold oneD
  split
  · exact ⟨Nat.zero_le _, Nat.le_refl _⟩
  · split
    · exact ⟨Nat.zero_le _, Nat.le_refl _⟩
    · exact ⟨applyF_size _ _, rTxt_le _⟩
theorem oneF_size (h : st.1.size ≤ 140737488355328) : (oneF st l deep f).1.1.size ≤ 140737488355328 ∧ (oneF st l deep f).2.1.size ≤ st.1.size := by
  have h1 := rNum_le st
  have hD : ∀ (base : ByteArray) (depth : Nat) (s : ByteArray × Int), s.1.size ≤ st.1.size → (oneD base depth s).1.1.size ≤ 140737488355328 ∧ (oneD base depth s).2.1.size ≤ st.1.size := by
    intro base depth s hs
    obtain ⟨a, b⟩ := oneD_size base depth s
    exact ⟨Nat.le_trans a (by decide), Nat.le_trans b hs⟩
  unfold oneF
  split
  · exact ⟨Nat.zero_le _, Nat.le_refl _⟩
  · split
    · split
      · exact ⟨Nat.zero_le _, Nat.le_refl _⟩
      · have h2 := rNum_le (rNum st).2
        have h3 := rByt_out (rNum (rNum st).2).2 (rNum (rNum st).2).1
        have h4 := rByt_le (rNum (rNum st).2).2 (rNum (rNum st).2).1
        exact ⟨by dsimp only; omega, by dsimp only; omega⟩
    · split
      · split
        · exact ⟨Nat.zero_le _, Nat.le_refl _⟩
        · split
          · exact ⟨Nat.zero_le _, Nat.le_refl _⟩
          · exact hD _ _ _ (Nat.le_trans (rNum_le _) h1)
      · split
        · exact ⟨Nat.zero_le _, Nat.le_refl _⟩
        · cases f (rByt (rNum st).2 32).1 with
          | none => exact ⟨Nat.zero_le _, Nat.le_refl _⟩
          | some x => exact hD _ _ _ (Nat.le_trans (rByt_le _ _) h1)
end
theorem byF_mem {sm : ByteArray → ByteArray} {out : List ByteArray} {k s : ByteArray} (h : byF sm out k = some s) : s ∈ out := by
  have key : ∀ (m : List ByteArray) (a : Option ByteArray), m.foldl (fun a s => if sm s = k then some s else a) a = some s → s ∈ m ∨ a = some s := by
    intro m
    induction m with
    | nil => intro a h; exact .inr h
    | cons y m ih =>
      intro a h
      rcases ih _ h with h | h
      · exact .inl (by simp [h])
      · dsimp only at h
        split at h
        · injection h with h; exact .inl (by simp [h])
        · exact .inr h
  rcases key out none h with h | h
  · exact h
  · cases h
section
variable {f : ByteArray → Option ByteArray} {n : Nat} {st s2 : ByteArray × Int} {l : List ByteArray} {deep : List Nat} {x : ByteArray} {d : Nat} {e : Int}
theorem readG_1 (h : oneF st l deep f = ((x, d, e), s2)) (he : e ≠ 0) : readG f (n + 1) st l deep = ([], e) := by rw [readG, h]; dsimp only; rw [if_pos he]
theorem readG_2 {o : ObjS} (h : oneF st l deep f = ((x, d, 0), s2)) (h2 : decodeF x = (o, e)) (he : e ≠ 0) : readG f (n + 1) st l deep = ([], e) := by rw [readG, h]; dsimp only; rw [if_neg (by simp), h2, if_pos he]
theorem readG_3 {o : ObjS} (h : oneF st l deep f = ((x, d, 0), s2)) (h2 : decodeF x = (o, 0)) (h3 : hasB l x = true) : readG f (n + 1) st l deep = ([], 8) := by rw [readG, h]; dsimp only; rw [if_neg (by simp), h2, if_neg (by simp), if_pos h3]
theorem readG_4 {o : ObjS} (h : oneF st l deep f = ((x, d, 0), s2)) (h2 : decodeF x = (o, 0)) (h3 : hasB l x = false) : readG f (n + 1) st l deep = readG f n s2 (l ++ [x]) (deep ++ [d]) := by rw [readG, h]; dsimp only; rw [if_neg (by simp), h2, if_neg (by simp), if_neg (by rw [h3]; decide)]
theorem readG_0 (st : ByteArray × Int) (l : List ByteArray) (deep : List Nat) (f : ByteArray → Option ByteArray) : readG f 0 st l deep = if 0 < st.1.size then ([], 2) else (l, 0) := rfl
variable {sm : ByteArray → ByteArray} {b x1 x2 x3 : ByteArray} {out : List ByteArray}
theorem readF_1 (h : b.size < 33 ∨ b.data.toList.getD 0 0 ≠ 80) : readF sm b out = ([], 2) := by unfold readF; rw [if_pos h]
theorem readF_2 (h : ¬ (b.size < 33 ∨ b.data.toList.getD 0 0 ≠ 80)) (h1 : x1 = b.extract 0 (b.size - 32)) (h2 : x2 = b.extract (b.size - 32) b.size) (h3 : sm x1 ≠ x2) : readF sm b out = ([], 5) := by unfold readF; rw [if_neg h, ← h1, ← h2, if_pos h3]
theorem readF_3 (h : ¬ (b.size < 33 ∨ b.data.toList.getD 0 0 ≠ 80)) (h1 : x1 = b.extract 0 (b.size - 32)) (h2 : x2 = b.extract (b.size - 32) b.size) (h3 : sm x1 = x2) (hx : x3 = b.extract 1 (b.size - 32)) {t1 : ByteArray} {e1 : Int} (h4 : rNum (x3, 0) = (n, (t1, e1))) :
    readF sm b out = if e1 ≠ 0 then ([], 2) else if 400 < n then ([], 6) else readG (byF sm out) n (t1, e1) [] [] := by
  unfold readF bodyP; rw [if_neg h, ← h1, ← h2, if_neg (fun k => k h3), ← hx, h4]
end
/-- What Read's second loop keeps. -/
structure RpSt (w : World) (B g gm n : Nat) (D : DataW Unit) (st : ByteArray × Int) (l : List ByteArray) (deep : List Nat) (vl vd : Value) : Prop where
  rd : RdSt w g st
  mp : ownsS w gm n D
  rl : w.ownsRow B 9 1 vl l.length (svs l)
  rp : w.ownsRow B 3 1 vd deep.length (ivs (deep.map (fun k : Nat => (k : Int))))
  bs : B ≤ g ∧ B ≤ gm ∧ B ≤ w.heap.size
theorem typ_ne : (107 : TypeId) ≠ 9 ∧ (107 : TypeId) ≠ 3 ∧ (9 : TypeId) ≠ 3 := by decide
theorem RpSt.far {w : World} {B g gm n : Nat} {D : DataW Unit} {st : ByteArray × Int} {l : List ByteArray} {deep : List Nat} {vl vd : Value} (h : RpSt w B g gm n D st l deep vl vd) :
    vl.ownBlock ≠ some g ∧ vl.ownBlock ≠ some gm ∧ vd.ownBlock ≠ some g ∧ vd.ownBlock ≠ some gm ∧ g ≠ gm ∧ (∀ k, vl.ownBlock = some k → vd.ownBlock ≠ some k) := by
  obtain ⟨es, clock, hm, _⟩ := h.mp
  have hg := h.rd.blk
  refine ⟨fun e => ?_, fun e => ?_, fun e => ?_, fun e => ?_, fun e => ?_, fun k e e2 => ?_⟩
  · obtain ⟨_, cs, f, hk⟩ := owns_elem h.rl e
    rw [hg] at hk; injection hk with hk; injection hk with _ hk; exact typ_ne.1 hk
  · obtain ⟨_, cs, f, hk⟩ := owns_elem h.rl e
    rw [hm] at hk; cases hk
  · obtain ⟨_, cs, f, hk⟩ := owns_elem h.rp e
    rw [hg] at hk; injection hk with hk; injection hk with _ hk; exact typ_ne.2.1 hk
  · obtain ⟨_, cs, f, hk⟩ := owns_elem h.rp e
    rw [hm] at hk; cases hk
  · rw [← e, hg] at hm; cases hm
  · obtain ⟨_, cs, f, hk⟩ := owns_elem h.rl e
    obtain ⟨_, cs2, f2, hk2⟩ := owns_elem h.rp e2
    rw [hk] at hk2; injection hk2 with hk2; injection hk2 with _ hk2; exact typ_ne.2.2 hk2
section
variable {w w' : World} {B g gm n : Nat} {D : DataW Unit} {st : ByteArray × Int} {l : List ByteArray} {deep : List Nat} {vl vd : Value}
theorem RpSt.upd (h : RpSt w B g gm n D st l deep vl vd) {S : Nat → Prop} (hu : Upd S w w') (h1 : ¬ S g) (h2 : ¬ S gm) (h3 : ∀ k, vl.ownBlock = some k → ¬ S k) (h4 : ∀ k, vd.ownBlock = some k → ¬ S k) : RpSt w' B g gm n D st l deep vl vd :=
  ⟨h.rd.upd hu h1, ownsMap_blk h.mp (hu.block gm h.mp.lt h2), owns_upd h.rl hu h3, owns_upd h.rp hu h4, h.bs.1, h.bs.2.1, Nat.le_trans h.bs.2.2 hu.size⟩
theorem RpSt.below (h : RpSt w B g gm n D st l deep vl vd) (hb : Below w.heap.size w w') : RpSt w' B g gm n D st l deep vl vd :=
  h.upd (S := fun _ => False) (Upd.of_below hb) (fun h => h) (fun h => h) (fun _ _ h => h) (fun _ _ h => h)
theorem RpSt.reader (h : RpSt w B g gm n D st l deep vl vd) {s2 : ByteArray × Int} (hr : RdSt w' g s2) (hu : Upd (· = g) w w') : RpSt w' B g gm n D s2 l deep vl vd ∧ Below B w w' := by
  obtain ⟨f1, f2, f3, f4, f5, f6⟩ := h.far
  refine ⟨⟨hr, ownsMap_blk h.mp (hu.block gm h.mp.lt (fun e => f5 e.symm)), owns_upd h.rl hu (fun k hk e => f1 (e ▸ hk)), owns_upd h.rp hu (fun k hk e => f3 (e ▸ hk)), h.bs.1, h.bs.2.1, Nat.le_trans h.bs.2.2 hu.size⟩, hu.below h.bs.2.2 (fun k hk => by rw [hk]; exact h.bs.1)⟩
theorem RpSt.appL (h : RpSt w B g gm n D st l deep vl vd) {x : ByteArray} {v' : Value} (ho : w'.ownsRow B 9 1 v' (l.length + 1) (svs l ++ [.string x])) (hu : Upd (fun k => vl.ownBlock = some k) w w') : RpSt w' B g gm n D st (l ++ [x]) deep v' vd ∧ Below B w w' := by
  obtain ⟨f1, f2, f3, f4, f5, f6⟩ := h.far
  refine ⟨⟨h.rd.upd hu f1, ownsMap_blk h.mp (hu.block gm h.mp.lt f2), by rw [List.length_append, svs, List.map_append]; exact ho, owns_upd h.rp hu (fun k hk e => f6 k e hk), h.bs.1, h.bs.2.1, Nat.le_trans h.bs.2.2 hu.size⟩, hu.below h.bs.2.2 (fun k hk => (h.rl.lt k hk).1)⟩
theorem RpSt.appD (h : RpSt w B g gm n D st l deep vl vd) {x : Nat} {v' : Value} (ho : w'.ownsRow B 3 1 v' (deep.length + 1) (ivs (deep.map (fun k : Nat => (k : Int))) ++ [.int .i64 (x : Int)])) (hu : Upd (fun k => vd.ownBlock = some k) w w') : RpSt w' B g gm n D st l (deep ++ [x]) vl v' ∧ Below B w w' := by
  obtain ⟨f1, f2, f3, f4, f5, f6⟩ := h.far
  refine ⟨⟨h.rd.upd hu f3, ownsMap_blk h.mp (hu.block gm h.mp.lt f4), owns_upd h.rl hu (fun k hk e => f6 k hk e), by rw [List.length_append, List.map_append, ivs, List.map_append]; exact ho, h.bs.1, h.bs.2.1, Nat.le_trans h.bs.2.2 hu.size⟩, hu.below h.bs.2.2 (fun k hk => (h.rp.lt k hk).1)⟩
end
set_option maxRecDepth 100000 in
set_option maxHeartbeats 3200000 in
theorem read_any' (b : ByteArray) (out : List ByteArray) (vo : Value) (w : World) (hb : b.size ≤ 140737488355328) (ho : rdS w vo out) (hso : smalls out) (ht : Tab w) :
    Calls Tryd.prog 12 #[.string b, vo] w fun e w' => ∃ v, e = .returned (.tuple #[v, .int .i64 (readF sumF b out).2]) ∧ rdS w' v (readF sumF b out).1 ∧ Below w.heap.size w w' := by
  obtain ⟨F, hF⟩ : ∃ F, F = readF sumF b out := ⟨_, rfl⟩
  rw [← hF]
  have HF := Lib.hid hF
  have HO := Lib.hid (fun wr (h : Below w.heap.size w wr) => ho.below h)
  have HT := Lib.hid (fun wr (h : Below w.heap.size w wr) => ht.below h)
  have HSO := Lib.hid hso
  have HOL := Lib.hid (rdS_len ho)
  have HBS := Lib.hid hb
  have HB0 := Lib.hid (Below.refl w.heap.size w)
  obtain ⟨a1, a2, rfl⟩ := rd_form ho
  clear ho hso ht hF
  by_cases hc1 : b.size < 33
  · have t1 : decide ((b.size : Int) < 33) = true := decide_eq_true (by omega)
    have t2 : decide (b.size < 33) = true := decide_eq_true hc1
    go_enter Tryd.func12, Tryd.ntmps12
    have hF := HF.out.trans (readF_1 (.inl hc1))
    subst hF
    clear hc1
    go_wp2_with fail
    go_ret2
    exact ⟨_, rfl, rdS_nil _, HB0.out⟩
  · have t1 : decide ((b.size : Int) < 33) = false := decide_eq_false (by omega)
    have t2 : decide (b.size < 33) = false := decide_eq_false hc1
    have hpos : 0 < b.size := by omega
    have hB0 : b.data.toList.getD 0 0 = b[0] := by
      rw [List.getD, List.getElem?_eq_getElem (by rw [toList_length]; exact hpos)]
      exact getElem_toList b 0 hpos
    by_cases hc2 : b.data.toList.getD 0 0 ≠ 80
    · have n1 : ((b[0].toNat : Int) == 80) = false := beq_eq_false_iff_ne.2 (fun e => hc2 (by rw [hB0]; exact UInt8.toNat_inj.1 (by have h80 : (80 : UInt8).toNat = 80 := rfl; omega)))
      have n2 : ((b[0].toNat : Int) != 80) = true := by rw [bne, n1]; rfl
      go_enter Tryd.func12, Tryd.ntmps12
      have hF := HF.out.trans (readF_1 (.inr hc2))
      subst hF
      clear hc2 hB0
      go_wp2_with fail
      go_ret2
      exact ⟨_, rfl, rdS_nil _, HB0.out⟩
    · have h80 : b[0] = 80 := by rw [← hB0]; exact Classical.not_not.1 hc2
      have n1 : ((b[0].toNat : Int) == 80) = true := by rw [h80]; rfl
      have n2 : ((b[0].toNat : Int) != 80) = false := by rw [bne, n1]; rfl
      have HNO := Lib.hid (show ¬ (b.size < 33 ∨ b.data.toList.getD 0 0 ≠ 80) by rintro (h | h); exact hc1 h; exact hc2 h)
      obtain ⟨en, hen⟩ : ∃ en, en = b.size - 32 := ⟨_, rfl⟩
      have hE : (b.size : Int) - 32 = (en : Int) := by omega
      have hEl : en ≤ b.size := by omega
      have hE1 : 1 ≤ en := by omega
      obtain ⟨x1, hx1⟩ : ∃ x, b.extract 0 en = x := ⟨_, rfl⟩
      obtain ⟨x2, hx2⟩ : ∃ x, b.extract en b.size = x := ⟨_, rfl⟩
      obtain ⟨x3, hx3⟩ : ∃ x, b.extract 1 en = x := ⟨_, rfl⟩
      have HX1 := Lib.hid (show x1 = b.extract 0 (b.size - 32) by rw [← hx1, hen])
      have HX2 := Lib.hid (show x2 = b.extract (b.size - 32) b.size by rw [← hx2, hen])
      have HX3 := Lib.hid (show x3 = b.extract 1 (b.size - 32) by rw [← hx3, hen])
      have HX3S := Lib.hid (show x3.size ≤ 140737488355328 by rw [← hx3, ByteArray.size_extract]; omega)
      obtain ⟨y1, hy1⟩ : ∃ y, y = sumF x1 := ⟨_, rfl⟩
      have HY1 := Lib.hid hy1
      have HSM := Lib.hid (fun wr (h : Below w.heap.size w wr) => sum_any x1 wr (HT.out wr h))
      rw [← hy1] at HSM
      clear hc1 hc2 hB0 h80 hen hy1
      go_enter Tryd.func12, Tryd.ntmps12
      go_wp2_with fail
      refine Lone.wp_region_order [(0, false), (1, false), (2, false), (4, false), (5, false), (6, false), (3, true), (7, false)] (fun _ => True) (by kernel_rfl) (by kernel_rfl) rfl (by kernel_rfl) (by intro _ _ d _ _ h; cases d <;> exact h) (trivial) ?_; simp only [List.map_cons, List.map_nil, List.getElem?_toArray, List.getElem?_cons_zero, List.getElem?_cons_succ, Option.getD_some]
      repeat (first | (refine Lone.ro_q (by rfl) (v := ?_) ?_ ?_; rotate_left; (focus (intro w' hSw; (try dsimp only at hSw); go_simp; try with_reducible rfl)); simp only [Act.put, List.setIfInBounds_toArray, List.set_cons_zero, List.set_cons_succ]) | (refine Lone.ro_skip (by rfl) ?_; simp only [Act.put, List.setIfInBounds_toArray, List.set_cons_zero, List.set_cons_succ]))
      (refine Lone.ro_loud (by rfl) (fun K hK => ?_); go_simp)
      have HB1 := Lib.hid (below_drew HB0.out)
      (with_reducible refine (HSM.out _ HB1.out).mono ?_)
      rintro e w2 ⟨rfl, hb⟩
      have HB2 := Lib.hid (HB1.out.trans (hb.mono HB1.out.size))
      clear hb HSM
      (refine hK.out _ _ (fun _ => True) (.inl fun _ h => h) (trivial) ?_; clear hK K; try simp only [Act.put, List.setIfInBounds_toArray, List.set_cons_zero, List.set_cons_succ])
      by_cases hs : y1 = x2
      · have m1 : (y1.toList == x2.toList) = true := by rw [hs]; exact beq_yes _
        have m2 : (y1.toList != x2.toList) = false := by rw [bne, m1]; rfl
        have HSE := Lib.hid (show sumF x1 = x2 by rw [← HY1.out]; exact hs)
        repeat (first | (refine Lone.ro_q (by rfl) (v := ?_) ?_ ?_; rotate_left; (focus (intro w' hSw; (try dsimp only at hSw); go_simp; try with_reducible rfl)); simp only [Act.put, List.setIfInBounds_toArray, List.set_cons_zero, List.set_cons_succ]) | (refine Lone.ro_skip (by rfl) ?_; simp only [Act.put, List.setIfInBounds_toArray, List.set_cons_zero, List.set_cons_succ]))
        refine Lone.ro_nil ?_
        clear hs m1 n1 n2 t1 t2
        have hmm := @run_makeMap Tryd.prog
        go_wp2_with fail
        clear m2 hmm
        obtain ⟨gm, hgm⟩ : ∃ gm, gm = w2.heap.size := ⟨_, rfl⟩
        rw [← hgm]
        have HGM := Lib.hid (show w.heap.size ≤ gm by rw [hgm]; exact HB2.out.size)
        go_loopw [41] (fun i wr => ∃ (k : Nat) (D : DataW Unit), k ≤ out.length ∧ i = .int .i64 (k : Int) ∧ Hid (RepS D (byF sumF (out.take k))) ∧ Hid (ownsS wr gm k D) ∧ Hid (Below w.heap.size w wr)) (fun i _ => out.length - (intOf i).toNat)
        case atStart =>
          refine ⟨0, .map [], Nat.zero_le _, rfl, Lib.hid repS_start, Lib.hid ?_, Lib.hid (HB2.out.alloc HB2.out.size _)⟩
          rw [hgm]; exact World.ownsMap_made w2 Tryd.prog 9 _
        case round =>
          clear HB2 hgm
          obtain ⟨k, D, hk, rfl, HREP, HMP, HB3⟩ := hrel
          by_cases hkl : k < out.length
          · have HKL := Lib.hid hkl
            have kb : decide ((k : Int) < (out.length : Int)) = true := decide_eq_true (by omega)
            have ki : (k : Int) < (out.length : Int) := by omega
            have kz : (0 : Int) ≤ (k : Int) := by omega
            obtain ⟨bl, ol, hbl, _, hcl⟩ := rdS_at' (HO.out _ HB3.out) (by omega)
            subst hbl
            have e0 := hcl k hkl
            obtain ⟨x, hx⟩ : ∃ x, x = out.getD k noB := ⟨_, rfl⟩
            rw [← hx] at e0
            have HXS := Lib.hid (show x.size ≤ 140737488355328 by rw [hx]; exact smalls_at HSO.out k)
            obtain ⟨y, hy⟩ : ∃ y, y = sumF x := ⟨_, rfl⟩
            have HID := Lib.hid (id_any x wr (HT.out _ HB3.out))
            rw [← hy] at HID
            have hkey : keyOf Tryd.prog 9 (.string y) = some (keyB y) := keyB_of y (by rw [hy, sumF_size]; decide)
            have HR2 := Lib.hid (show RepS (D.put (keyB y) (.lit (.string x.data.toList))) (byF sumF (out.take (k + 1))) from repS_put HREP.out y x (fun key => by rw [← take_snocD hkl, byF_snoc, ← hx, ← hy]))
            have hK1 : k + 1 ≤ out.length := hkl
            have hk63 : (k : Int) + 1 ≤ 9223372036854775807 := by have := HOL.out; omega
            have hkm : k < maxLen := by have := HOL.out; unfold maxLen; omega
            have hxm : x.size ≤ maxLen := by have := HXS.out; unfold maxLen; omega
            clear hcl hx hkl hy
            go_wp2_with fail
            (with_reducible refine HID.out.mono ?_)
            rintro e w4 ⟨rfl, hb⟩
            have HB4 := Lib.hid (HB3.out.trans (hb.mono HB3.out.size))
            have HM4 := Lib.hid (ownsMap_blk HMP.out (hb.block gm HMP.out.lt))
            clear hb HID e0
            go_wp2_with (first | (at_mapUpdate; refine wpList_mapUpdate_own _ rfl _ _ _ 46 rfl 9 9 lawS Tryd.underlying46 _ gm k _ rfl HM4.out hkm _ _ _ rfl rfl hkey _ [] (plainElem_string Tryd.underlying9 hxm) ?_; intro w5 hown5 hgrow5))
            have HB5 := Lib.hid (HB4.out.grown hgrow5 HB4.out.size (fun j hj => by injection hj with hj; rw [← hj]; exact HGM.out))
            exact ⟨⟨k + 1, _, hK1, rfl, HR2, Lib.hid hown5, HB5⟩, meas_step (n := out.length) _ rfl HKL.out⟩
          · have kb : decide ((k : Int) < (out.length : Int)) = false := decide_eq_false (by omega)
            have kb2 : decide (k < out.length) = false := decide_eq_false hkl
            obtain rfl : k = out.length := by omega
            rw [List.take_length] at HREP
            clear hkl
            have HRA := Lib.hid (read_any x3 wr)
            go_wp2_with fail
            (with_reducible refine HRA.out.mono ?_)
            rintro e w4 ⟨rfl, hr, hb, _⟩
            have HB4 := Lib.hid (HB3.out.trans (hb.mono HB3.out.size))
            have HM4 := Lib.hid (ownsMap_blk HMP.out (hb.block gm HMP.out.lt))
            have HGG := Lib.hid (show w.heap.size ≤ wr.heap.size from HB3.out.size)
            obtain ⟨g, hg⟩ : ∃ g, g = wr.heap.size := ⟨_, rfl⟩
            rw [← hg] at hr HGG
            rw [← hg]
            have HR4 := Lib.hid hr
            clear hr hb HRA hg kb kb2 hE hEl hE1
            obtain ⟨⟨n0, t1, e1⟩, hq1⟩ : ∃ q, q = rNum (x3, 0) := ⟨_, rfl⟩
            have hc1 := rNumber_any HR4.out (by have := HX3S.out; unfold maxLen; dsimp only; omega)
            rw [← hq1] at hc1
            have HF2 := Lib.hid (HF.out.trans (readF_3 HNO.out HX1.out HX2.out HSE.out HX3.out hq1.symm))
            have HSZ := Lib.hid (show t1.size ≤ 140737488355328 by have := rNum_le (x3, 0); rw [← hq1] at this; exact Nat.le_trans this HX3S.out)
            clear hq1
            have HC := Lib.hid hc1
            clear hc1
            go_wp2_with fail
            (with_reducible refine HC.out.mono ?_)
            rintro e w5 ⟨rfl, hr, hu⟩
            have HR5 := Lib.hid hr
            have HB5 := Lib.hid (HB4.out.trans (hu.below HB4.out.size (fun j hj => by rw [hj]; exact HGG.out)))
            have HNG := Lib.hid (show gm ≠ g from fun e => by obtain ⟨es, cl, hm, _⟩ := HM4.out; rw [e, HR4.out.blk] at hm; cases hm)
            have HM5 := Lib.hid (ownsMap_blk HM4.out (hu.block gm HM4.out.lt HNG.out))
            clear HC hr hu
            have HC := Lib.hid (rBad_any HR5.out)
            go_wp2_with fail
            (with_reducible refine HC.out.mono ?_)
            rintro e wq ⟨rfl, rfl⟩
            clear HC
            by_cases h1 : e1 = 0
            · subst h1
              by_cases h4 : 400 < n0
              · have t4 : decide ((400 : Int) < (n0 : Int)) = true := decide_eq_true (by omega)
                have t5 : decide (400 < n0) = true := decide_eq_true h4
                have hF := HF2.out
                rw [if_neg (by simp), if_pos h4] at hF
                subst hF
                clear h4
                go_wp2_with fail
                go_ret2
                exact ⟨_, rfl, rdS_nil _, HB5.out⟩
              · have t4 : decide ((400 : Int) < (n0 : Int)) = false := decide_eq_false (by omega)
                have t5 : decide (400 < n0) = false := decide_eq_false h4
                have hF := HF2.out
                rw [if_neg (by simp), if_neg h4] at hF
                have HF3 := Lib.hid hF
                have HN0 := Lib.hid (show n0 ≤ 400 by omega)
                clear h4 hF
                have HP5 := Lib.hid (show RpSt w5 w.heap.size g gm out.length D (t1, 0) [] [] (.slice none 0 0) (.slice none 0 0) from ⟨HR5.out, HM5.out, World.ownsRow_nil _ _ _ _, World.ownsRow_nil _ _ _ _, HGG.out, HGM.out, HB5.out.size⟩)
                go_wp2_with fail
                clear t4 t5
                go_loopw [12, 13, 62] (fun vl vd i wr => ∃ (k : Nat) (st : ByteArray × Int) (l : List ByteArray) (deep : List Nat), k ≤ n0 ∧ i = .int .i64 (k : Int) ∧ l.length = k ∧ deep.length = k ∧ Hid (F = readG (byF sumF out) (n0 - k) st l deep) ∧ Hid (RpSt wr w.heap.size g gm out.length D st l deep vl vd) ∧ Hid (st.1.size ≤ 140737488355328 ∧ smalls l) ∧ Hid (Below w.heap.size w wr)) (fun _ _ i _ => n0 - (intOf i).toNat)
                case atStart => exact ⟨0, (t1, 0), [], [], Nat.zero_le _, rfl, rfl, rfl, HF3, HP5, Lib.hid ⟨HSZ.out, fun _ h => by cases h⟩, HB5⟩
                case round =>
                  clear HF3 HP5 HB5 HM5 HR5 HM4 HR4 HB4 HB3 HMP
                  obtain ⟨k, st, l, deep, hk, rfl, hll, hdl, HFG, HP6, HSS, HB6⟩ := hrel
                  by_cases hkn : k < n0
                  · have HKN := Lib.hid hkn
                    have kb : decide ((k : Int) < (n0 : Int)) = true := decide_eq_true (by omega)
                    have kb2 : decide (k < n0) = true := decide_eq_true hkn
                    have HLK := Lib.hid (And.intro hll hdl)
                    skip
                    obtain ⟨vl1, vl2, hvl⟩ := rd_form (rdS_owns HP6.out.rl)
                    obtain ⟨vd1, vd2, hvd⟩ := rd_form (rdRow_of_owns HP6.out.rp)
                    rw [hvl, hvd] at HP6
                    have hone := one_any (st := st) (l := l) (deep := deep) (f := byF sumF out) _ _ wr HP6.out.rd HSS.out.1 (fun wx hu => rdS_owns (owns_upd HP6.out.rl hu (fun j hj e => HP6.out.far.1 (e ▸ hj)))) (fun wx hu => by have h2 := rdRow_of_owns (owns_upd HP6.out.rp hu (fun j hj e => HP6.out.far.2.2.1 (e ▸ hj))); unfold rdI; rw [List.length_map]; exact h2) (fun wx hu => ownsMap_blk HP6.out.mp (hu.block gm HP6.out.mp.lt (fun e => HP6.out.far.2.2.2.2.1 e.symm))) HREP.out (by rw [hll, hdl]) HSS.out.2 (fun a s h => HSO.out s (byF_mem h))
                    obtain ⟨⟨⟨x, d, ea⟩, s2⟩, hq⟩ : ∃ q, q = oneF st l deep (byF sumF out) := ⟨_, rfl⟩
                    rw [← hq] at hone
                    have HQ := Lib.hid hq.symm
                    have hsz := oneF_size (l := l) (deep := deep) (f := byF sumF out) HSS.out.1
                    rw [← hq] at hsz
                    have HXS := Lib.hid hsz
                    have HFS := Lib.hid (show F = readG (byF sumF out) ((n0 - (k + 1)) + 1) st l deep by rw [show (n0 - (k + 1)) + 1 = n0 - k by omega]; exact HFG.out)
                    have hK1 : k + 1 ≤ n0 := hkn
                    have hk4 : (k : Int) < 400 := by have := HN0.out; omega
                    clear hq hsz hkn hll hdl
                    subst hvl hvd
                    go_wp2_with fail
                    (with_reducible refine hone.mono ?_)
                    rintro e w7 ⟨rfl, hr7, hu7⟩
                    clear hone
                    have HU7 := Lib.hid hu7
                    have HR7 := Lib.hid hr7
                    clear hu7 hr7
                    by_cases hea : ea = 0
                    · subst hea
                      obtain ⟨hp7, hb7⟩ := HP6.out.reader (HR7.out rfl) HU7.out
                      have HP7 := Lib.hid hp7
                      have HB7 := Lib.hid (HB6.out.trans hb7)
                      clear hp7 hb7 HR7 HU7
                      have HDEC := Lib.hid (decode_any x w7 (by have := HXS.out.1; omega))
                      obtain ⟨⟨o, ed⟩, hq⟩ : ∃ q, q = decodeF x := ⟨_, rfl⟩
                      rw [← hq] at HDEC
                      have HED := Lib.hid hq.symm
                      clear hq
                      go_wp2_with fail
                      (with_reducible refine HDEC.out.mono ?_)
                      rintro e w8 ⟨ve, vp, rfl, re, rs, hb⟩
                      have HP8 := Lib.hid (HP7.out.below hb)
                      have HB8 := Lib.hid (HB7.out.trans (hb.mono HB7.out.size))
                      obtain ⟨C, hC⟩ : ∃ C : Array Value, C = (objC o ve vp).toArray := ⟨_, rfl⟩
                      have hsz : C.size = 9 := by rw [hC]; rfl
                      have hone : C.all (·.oneCell') = true := by rw [hC]; exact objC_one re rs
                      rw [← hC]
                      clear hC re rs hb HDEC
                      by_cases hz : ed = 0
                      · subst hz
                        obtain ⟨hb8, hhb⟩ : ∃ b, b = hasB l x := ⟨_, rfl⟩
                        have HHB := Lib.hid hhb.symm
                        go_wp2_with (refine wpList_store_blk (by rfl) 54 (.tmp 17) (.tmp 79) rfl w8.heap.size C rfl rfl (old := _) (heap_alloc_new _ _) (by rw [hsz]; exact info_ob) (by rw [hsz]; rfl) hone ?_; intro w9 gz uz; have hbz := below_upd ((Below.refl w8.heap.size w8).alloc (Nat.le_refl _) _) uz (Nat.le_refl _) (by simp); have HB9 := Lib.hid (HB8.out.trans (hbz.mono HB8.out.size)); have HP9 := Lib.hid (HP8.out.below hbz); clear gz uz hbz)
                        have HCT := Lib.hid (containsS_any l x _ w9 (rdS_owns HP9.out.rl))
                        rw [← hhb] at HCT
                        clear hhb hsz hone
                        (with_reducible refine HCT.out.mono ?_)
                        rintro e wq ⟨rfl, rfl⟩
                        clear HCT
                        cases hb8 with
                        | true =>
                          have hF := HFS.out.trans (readG_3 HQ.out HED.out HHB.out)
                          subst hF
                          go_wp2_with fail
                          go_ret2
                          exact ⟨_, rfl, rdS_nil _, HB9.out⟩
                        | false =>
                          have HFN := Lib.hid (HFS.out.trans (readG_4 HQ.out HED.out HHB.out))
                          have hl4 : (l.length + 1) * 16 ≤ 140737488355328 := by have := HLK.out; omega
                          have hd4 : (deep.length + 1) * 8 ≤ 140737488355328 := by have := HLK.out; omega
                          go_wp2_with (first | (at_builtin; refine wpList_append1u (by rfl) _ _ 22 rfl info_string Tryd.underlying22 rfl (by decide) (by decide) HP9.out.rl HP9.out.bs.2.2 (cs := #[.string x]) rfl (by simp [Value.oneCell']) hl4 rfl rfl ?_; intro va wa hoa hua; obtain ⟨hpa, hba⟩ := HP9.out.appL hoa hua; have HPA := Lib.hid hpa; have HBA := Lib.hid (HB9.out.trans hba); clear hoa hua hpa hba) | (at_builtin; refine wpList_append1u (by rfl) _ _ 60 rfl info_int Tryd.underlying60 rfl (by decide) (by decide) HPA.out.rp HPA.out.bs.2.2 (cs := #[.int .i64 (d : Int)]) rfl (by simp [Value.oneCell']) hd4 rfl rfl ?_; intro vb wb hob hub; obtain ⟨hpb, hbb⟩ := HPA.out.appD hob hub; have HPB := Lib.hid hpb; have HBB := Lib.hid (HBA.out.trans hbb); clear hob hub hpb hbb))
                          exact ⟨⟨k + 1, s2, l ++ [x], deep ++ [d], hK1, rfl, by rw [List.length_append, HLK.out.1]; rfl, by rw [List.length_append, HLK.out.2]; rfl, HFN, HPB, Lib.hid ⟨Nat.le_trans HXS.out.2 HSS.out.1, smalls_more HSS.out.2 HXS.out.1⟩, HBB⟩, meas_step (n := n0) _ rfl HKN.out⟩
                      · have n1 : (ed == 0) = false := beq_eq_false_iff_ne.2 hz
                        have n2 : (ed != 0) = true := by rw [bne, n1]; rfl
                        have hF := HFS.out.trans (readG_2 HQ.out HED.out hz)
                        subst hF
                        clear hz
                        go_wp2_with (refine wpList_store_blk (by rfl) 54 (.tmp 17) (.tmp 79) rfl w8.heap.size C rfl rfl (old := _) (heap_alloc_new _ _) (by rw [hsz]; exact info_ob) (by rw [hsz]; rfl) hone ?_; intro w9 gz uz; have hbz := below_upd ((Below.refl w8.heap.size w8).alloc (Nat.le_refl _) _) uz (Nat.le_refl _) (by simp); have HB9 := Lib.hid (HB8.out.trans (hbz.mono HB8.out.size)); have HP9 := Lib.hid (HP8.out.below hbz); clear gz uz hbz)
                        go_ret2
                        exact ⟨_, rfl, rdS_nil _, HB9.out⟩
                    · have n1 : (ea == 0) = false := beq_eq_false_iff_ne.2 hea
                      have n2 : (ea != 0) = true := by rw [bne, n1]; rfl
                      have HB7 := Lib.hid (HB6.out.trans (HU7.out.below HB6.out.size (fun j hj => by rw [hj]; exact HGG.out)))
                      have hF := HFS.out.trans (readG_1 HQ.out hea)
                      subst hF
                      clear hea
                      go_wp2_with fail
                      go_ret2
                      exact ⟨_, rfl, rdS_nil _, HB7.out⟩
                  · have kb : decide ((k : Int) < (n0 : Int)) = false := decide_eq_false (by omega)
                    have kb2 : decide (k < n0) = false := decide_eq_false hkn
                    have hF0 := HFG.out
                    rw [show n0 - k = 0 by omega, readG_0] at hF0
                    have HF0 := Lib.hid hF0
                    clear hkn hF0
                    have HC := Lib.hid (rLeft_any HP6.out.rd)
                    go_wp2_with fail
                    (with_reducible refine HC.out.mono ?_)
                    rintro e wq ⟨rfl, rfl⟩
                    clear HC
                    by_cases h0 : 0 < st.1.size
                    · have z1 : decide ((0 : Int) < (st.1.size : Int)) = true := decide_eq_true (by omega)
                      have z2 : decide (0 < st.1.size) = true := decide_eq_true h0
                      have hF := HF0.out
                      rw [if_pos h0] at hF
                      subst hF
                      clear h0
                      go_wp2_with fail
                      go_ret2
                      exact ⟨_, rfl, rdS_nil _, HB6.out⟩
                    · have z1 : decide ((0 : Int) < (st.1.size : Int)) = false := decide_eq_false (by omega)
                      have z2 : decide (0 < st.1.size) = false := decide_eq_false h0
                      have hF := HF0.out
                      rw [if_neg h0] at hF
                      subst hF
                      clear h0
                      go_wp2_with fail
                      go_ret2
                      exact ⟨_, rfl, rdS_owns HP6.out.rl, HB6.out⟩
            · have n1 : (e1 == 0) = false := beq_eq_false_iff_ne.2 h1
              have n2 : (e1 != 0) = true := by rw [bne, n1]; rfl
              have hF := HF2.out
              rw [if_pos h1] at hF
              subst hF
              clear h1
              go_wp2_with fail
              go_ret2
              exact ⟨_, rfl, rdS_nil _, HB5.out⟩
      · have m1 : (y1.toList == x2.toList) = false := beq_no hs
        have m2 : (y1.toList != x2.toList) = true := by rw [bne, m1]; rfl
        repeat (first | (refine Lone.ro_q (by rfl) (v := ?_) ?_ ?_; rotate_left; (focus (intro w' hSw; (try dsimp only at hSw); go_simp; try with_reducible rfl)); simp only [Act.put, List.setIfInBounds_toArray, List.set_cons_zero, List.set_cons_succ]) | (refine Lone.ro_skip (by rfl) ?_; simp only [Act.put, List.setIfInBounds_toArray, List.set_cons_zero, List.set_cons_succ]))
        (refine Lone.ro_nil ?_; go_wp2_with fail)
        have hF := HF.out.trans (readF_2 HNO.out HX1.out HX2.out (by rw [← HY1.out]; exact hs))
        subst hF
        clear hs
        go_wp2_with fail
        go_ret2
        exact ⟨_, rfl, rdS_nil _, HB2.out⟩
end Go.Proofs.YtalkheljejkpiaaDoor
