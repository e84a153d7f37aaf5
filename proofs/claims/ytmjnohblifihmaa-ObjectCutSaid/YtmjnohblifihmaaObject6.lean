/- The walk of object.Decode. -/
import Derived.Test.YtmjnohblifihmaaObjectKeep
import Derived.Test.YtmjnohblifihmaaWireReader
namespace Go.Proofs.Ytmjnohblifihmaa
open Go.RowKit
set_option linter.unusedVariables false
set_option linter.unusedSimpArgs false

theorem ob_cells' {w : World} {n : Nat} {o : Obj} {ve vp : Value} (h : w.heap[n]? = some (.cells (objC o ve vp).toArray 25 (0, 0))) :
    w.cell? ⟨n, 0, none⟩ = some (.int .i64 o.kind) ∧ w.cell? ⟨n, 1, none⟩ = some (.string o.data) ∧ w.cell? ⟨n, 2, none⟩ = some ve ∧ w.cell? ⟨n, 3, none⟩ = some (.string o.tree) ∧ w.cell? ⟨n, 4, none⟩ = some vp ∧
    w.cell? ⟨n, 5, none⟩ = some (.string o.who) ∧ w.cell? ⟨n, 6, none⟩ = some (.string o.note) ∧ w.cell? ⟨n, 7, none⟩ = some (.int .i64 o.time) ∧ w.cell? ⟨n, 8, none⟩ = some (.string o.target) := by
  refine ⟨?_, ?_, ?_, ?_, ?_, ?_, ?_, ?_, ?_⟩ <;> simp [World.cell?, h, objC]
theorem ob_free' {w : World} {n : Nat} {o : Obj} {ve vp : Value} (h : w.heap[n]? = some (.cells (objC o ve vp).toArray 25 (0, 0))) :
    w.frozen? ⟨n, 0, none⟩ = false ∧ w.frozen? ⟨n, 1, none⟩ = false ∧ w.frozen? ⟨n, 2, none⟩ = false ∧ w.frozen? ⟨n, 3, none⟩ = false ∧ w.frozen? ⟨n, 4, none⟩ = false ∧ w.frozen? ⟨n, 5, none⟩ = false ∧ w.frozen? ⟨n, 6, none⟩ = false ∧ w.frozen? ⟨n, 7, none⟩ = false ∧ w.frozen? ⟨n, 8, none⟩ = false := by
  refine ⟨?_, ?_, ?_, ?_, ?_, ?_, ?_, ?_, ?_⟩ <;> simp [World.frozen?, h]
theorem cells_setCell {w : World} {g : Nat} {cs : Array Value} {t : TypeId} (h : w.heap[g]? = some (.cells cs t (0, 0))) (i : Nat) (u : Value) : (w.setCell ⟨g, i, none⟩ u).heap[g]? = some (.cells (cs.setIfInBounds i u) t (0, 0)) := by
  have hlt := lt_of_block h
  have h' : w.heap[g] = .cells cs t (0, 0) := by simpa [Array.getElem?_eq_getElem hlt] using h
  show (w.heap.modify g _)[g]? = _
  rw [Array.getElem?_eq_getElem (by simpa using hlt), Array.getElem_modify_self, h']
  rfl
theorem set_id {w : World} {q i : Nat} {cs : Array Value} {t : TypeId} {f : Nat × Nat} {v : Value} (h : w.heap[q]? = some (.cells cs t f)) (hi : cs[i]? = some v) : w.setCell ⟨q, i, none⟩ v = w := by
  have hm : (w.setCell ⟨q, i, none⟩ v).heap = w.heap := by
    unfold World.setCell
    dsimp only
    apply Array.ext_getElem?
    intro j
    rw [Array.getElem?_modify]
    split
    · next e =>
      subst e
      rw [h]
      have hs : cs.setIfInBounds i v = cs := by
        apply Array.ext_getElem?
        intro k
        rw [Array.getElem?_setIfInBounds]
        split
        · next e2 =>
          subst e2
          split
          · exact hi.symm
          · next h2 => rw [Array.getElem?_eq_none (by omega)] at hi; simp at hi
        · rfl
      simp [hs]
    · rfl
  cases w
  simp only [World.setCell] at hm ⊢
  rw [hm]
theorem ob_set_id {w : World} {n : Nat} {k : Int} (h : w.heap[n]? = some (.cells (objC { zeroO with kind := k } (.slice none 0 0) (.slice none 0 0)).toArray 25 (0, 0))) :
    w.setCell ⟨n, 1, none⟩ (.string ⟨#[]⟩) = w ∧ w.setCell ⟨n, 2, none⟩ (.slice none 0 0) = w ∧ w.setCell ⟨n, 3, none⟩ (.string ⟨#[]⟩) = w ∧ w.setCell ⟨n, 4, none⟩ (.slice none 0 0) = w ∧
    w.setCell ⟨n, 5, none⟩ (.string ⟨#[]⟩) = w ∧ w.setCell ⟨n, 6, none⟩ (.string ⟨#[]⟩) = w ∧ w.setCell ⟨n, 7, none⟩ (.int .i64 0) = w ∧ w.setCell ⟨n, 8, none⟩ (.string ⟨#[]⟩) = w :=
  ⟨set_id h rfl, set_id h rfl, set_id h rfl, set_id h rfl, set_id h rfl, set_id h rfl, set_id h rfl, set_id h rfl⟩
structure DecSt (w : World) (B g q : Nat) (st : ByteArray × Int) (o : Obj) (ve vp : Value) : Prop where
  rd : RdSt w g st
  sz : st.1.size ≤ 8192
  ob : w.heap[q]? = some (.cells (objC o ve vp).toArray 25 (0, 0))
  es : w.ownsRow B 45 3 ve o.ents.length (evs o.ents)
  ps : w.ownsRow B 9 1 vp o.pars.length (svs o.pars)
  le : B ≤ g ∧ B ≤ q ∧ B ≤ w.heap.size
theorem owns_one {w : World} {B : Nat} {e : TypeId} {size n : Nat} {v : Value} {xs : List Value} (h : w.ownsRow B e size v n xs) : v.oneCell' = true := by
  rcases h.2 with ⟨rfl, _⟩ | ⟨g, cap, cur, rfl, _⟩ <;> rfl
theorem owns_ge {w : World} {B : Nat} {e : TypeId} {size n k : Nat} {v : Value} {xs : List Value} (h : w.ownsRow B e size v n xs) (hk : v.ownBlock = some k) : B ≤ k := by
  rcases h.2 with ⟨rfl, _⟩ | ⟨g, cap, cur, rfl, hbg, _⟩
  · simp [Value.ownBlock] at hk
  · simp only [Value.ownBlock, Option.some.injEq] at hk
    omega
theorem DecSt.one {w : World} {B g q : Nat} {st : ByteArray × Int} {o : Obj} {ve vp : Value} (h : DecSt w B g q st o ve vp) : (objC o ve vp).toArray.all (·.oneCell') = true := by
  have h1 := owns_one h.es
  have h2 := owns_one h.ps
  simp only [objC, List.all_toArray, List.all_cons, List.all_nil, h1, h2]
  rfl
theorem DecSt.far {w : World} {B g q : Nat} {st : ByteArray × Int} {o : Obj} {ve vp : Value} (h : DecSt w B g q st o ve vp) :
    g ≠ q ∧ ve.ownBlock ≠ some g ∧ ve.ownBlock ≠ some q ∧ vp.ownBlock ≠ some g ∧ vp.ownBlock ≠ some q ∧ (∀ k, ve.ownBlock = some k → vp.ownBlock ≠ some k) := by
  have hg := h.rd.blk
  have hq := h.ob
  refine ⟨?_, ?_, ?_, ?_, ?_, ?_⟩
  · intro e; rw [e, hq] at hg; simp at hg
  · intro e; obtain ⟨_, cs, f, hc⟩ := owns_elem h.es e; rw [hc] at hg; simp at hg
  · intro e; obtain ⟨_, cs, f, hc⟩ := owns_elem h.es e; rw [hc] at hq; simp at hq
  · intro e; obtain ⟨_, cs, f, hc⟩ := owns_elem h.ps e; rw [hc] at hg; simp at hg
  · intro e; obtain ⟨_, cs, f, hc⟩ := owns_elem h.ps e; rw [hc] at hq; simp at hq
  · intro k e1 e2
    obtain ⟨_, cs, f, hc⟩ := owns_elem h.es e1
    obtain ⟨_, cs2, f2, hc2⟩ := owns_elem h.ps e2
    rw [hc] at hc2; simp at hc2
theorem DecSt.read {w w' : World} {B g q : Nat} {st st' : ByteArray × Int} {o : Obj} {ve vp v : Value} {e : Ending} (h : DecSt w B g q st o ve vp) (ht : RdTo w g v st' e w') (hs : st'.1.size ≤ 8192 := by assumption) :
    e = .returned v ∧ DecSt w' B g q st' o ve vp ∧ Below B w w' := by
  obtain ⟨he, hr, hu⟩ := ht
  obtain ⟨f1, f2, f3, f4, f5, _⟩ := h.far
  exact ⟨he, ⟨hr, hs, blk_upd h.ob hu (fun e => f1 e.symm), owns_upd h.es hu (fun k hk e => f2 (e ▸ hk)), owns_upd h.ps hu (fun k hk e => f4 (e ▸ hk)), h.le.1, h.le.2.1, Nat.le_trans h.le.2.2 hu.size⟩,
    hu.below h.le.2.2 (fun k hk => by rw [hk]; exact h.le.1)⟩
theorem DecSt.set {w : World} {B g q : Nat} {st : ByteArray × Int} {o o' : Obj} {ve vp : Value} (h : DecSt w B g q st o ve vp) (i : Nat) (x : Value) (ho : (objC o ve vp).toArray.setIfInBounds i x = (objC o' ve vp).toArray) (he : o'.ents = o.ents) (hp : o'.pars = o.pars) :
    DecSt (w.setCell ⟨q, i, none⟩ x) B g q st o' ve vp ∧ Below B w (w.setCell ⟨q, i, none⟩ x) := by
  obtain ⟨f1, f2, f3, f4, f5, _⟩ := h.far
  have hu : Upd (fun k => k = q) w (w.setCell ⟨q, i, none⟩ x) := (Upd.refl (fun k => k = q) w).setCell (a := ⟨q, i, none⟩) (.inl rfl) _
  refine ⟨⟨h.rd.upd hu f1, h.sz, by rw [← ho]; exact cells_setCell h.ob i x, ?_, ?_, h.le.1, h.le.2.1, Nat.le_trans h.le.2.2 hu.size⟩, hu.below h.le.2.2 (fun k hk => by rw [hk]; exact h.le.2.1)⟩
  · rw [he]; exact owns_upd h.es hu (fun k hk e => f3 (e ▸ hk))
  · rw [hp]; exact owns_upd h.ps hu (fun k hk e => f5 (e ▸ hk))
theorem DecSt.drew {w : World} {B g q : Nat} {st : ByteArray × Int} {o : Obj} {ve vp : Value} (h : DecSt w B g q st o ve vp) : DecSt w.drew B g q st o ve vp := ⟨⟨h.rd.blk⟩, h.sz, h.ob, h.es.drew, h.ps.drew, h.le⟩
theorem DecSt.below {w w' : World} {B g q : Nat} {st : ByteArray × Int} {o : Obj} {ve vp : Value} (h : DecSt w B g q st o ve vp) (hb : Below w.heap.size w w') : DecSt w' B g q st o ve vp :=
  ⟨h.rd.below hb, h.sz, blk_below h.ob hb, owns_below h.es hb, owns_below h.ps hb, h.le.1, h.le.2.1, Nat.le_trans h.le.2.2 hb.size⟩
theorem rNum_62 (x : ByteArray × Int) : (rNum x).1 < 4611686018427387904 := by
  unfold rNum
  split
  · show 0 < 4611686018427387904; omega
  · cases hg : get x.1.data.toList with
    | none => show 0 < 4611686018427387904; omega
    | some p => exact (get_some hg).1
theorem rTxt_le (x : ByteArray × Int) : (rTxt x).2.1.size ≤ x.1.size := by
  unfold rTxt
  split
  · exact Nat.le_refl _
  · simp only [ByteArray.size_extract]; omega
theorem rNum_le (x : ByteArray × Int) : (rNum x).2.1.size ≤ x.1.size := by
  unfold rNum
  split
  · exact Nat.le_refl _
  · cases hg : get x.1.data.toList with
    | none => exact Nat.le_refl _
    | some p => simp only [ByteArray.size_extract]; omega
theorem rByt_le (x : ByteArray × Int) (n : Int) : (rByt x n).2.1.size ≤ x.1.size := by
  unfold rByt
  split
  · exact Nat.le_refl _
  · split
    · exact Nat.le_refl _
    · simp only [ByteArray.size_extract]; omega

theorem set9 {w0 w : World} {B R : Nat} (h : Below B w0 w) (hB : B ≤ R) (v0 v1 v2 v3 v4 v5 v6 v7 v8 : Value) :
    Below B w0 (((((((((w.setCell ⟨R, 0, none⟩ v0).setCell ⟨R, 1, none⟩ v1).setCell ⟨R, 2, none⟩ v2).setCell ⟨R, 3, none⟩ v3).setCell ⟨R, 4, none⟩ v4).setCell ⟨R, 5, none⟩ v5).setCell ⟨R, 6, none⟩ v6).setCell ⟨R, 7, none⟩ v7).setCell ⟨R, 8, none⟩ v8) := by
  have s : ∀ {w : World} (i : Nat) (v : Value), Below B w0 w → Below B w0 (w.setCell ⟨R, i, none⟩ v) := fun i v h => h.setCell hB v
  exact s 8 _ (s 7 _ (s 6 _ (s 5 _ (s 4 _ (s 3 _ (s 2 _ (s 1 _ (s 0 _ h))))))))
theorem decodeF_none {s : ByteArray} (h : ¬ 8192 < s.size) (hr : rawF s = none) : decodeF s = (zeroO, 2) := by unfold decodeF; rw [if_neg h, hr]
theorem decodeF_some {s : ByteArray} {r : Obj × (ByteArray × Int)} (h : ¬ 8192 < s.size) (hr : rawF s = some r) : decodeF s = endF2 r.1 r.2 := by unfold decodeF; rw [if_neg h, hr]
theorem raw_1 {s : ByteArray} {st : ByteArray × Int} (h : rNum (s, 0) = (1, st)) : rawF s = some (rawB st) := by unfold rawF; rw [h]; simp
theorem raw_2 {s : ByteArray} {st : ByteArray × Int} (h : rNum (s, 0) = (2, st)) : rawF s = rawT st := by unfold rawF; rw [h]; simp
theorem raw_3 {s : ByteArray} {st : ByteArray × Int} (h : rNum (s, 0) = (3, st)) : rawF s = some (rawC st) := by unfold rawF; rw [h]; simp
theorem raw_4 {s : ByteArray} {st : ByteArray × Int} (h : rNum (s, 0) = (4, st)) : rawF s = some (rawG st) := by unfold rawF; rw [h]; simp
theorem raw_0 {s : ByteArray} {st : ByteArray × Int} {K : Nat} (h : rNum (s, 0) = (K, st)) (h1 : K ≠ 1) (h2 : K ≠ 2) (h3 : K ≠ 3) (h4 : K ≠ 4) : rawF s = some ({ zeroO with kind := (K : Int) }, st) := by
  unfold rawF; rw [h]; simp only; rw [if_neg h1, if_neg h2, if_neg h3, if_neg h4]
theorem endF2_bad {o : Obj} {r : ByteArray} {e : Int} (h : e ≠ 0) : endF2 o (r, e) = (zeroO, 2) := by unfold endF2; rw [if_pos (.inl h)]
theorem endF2_left {o : Obj} {r : ByteArray} (hk : 1 ≤ o.kind ∧ o.kind ≤ 4) (h : 0 < r.size) : endF2 o (r, 0) = (zeroO, 2) := by unfold endF2; rw [if_pos (.inr ⟨hk.1, hk.2, h⟩)]
theorem endF2_good {o : Obj} {r : ByteArray} (h : (¬ (1 ≤ o.kind ∧ o.kind ≤ 4)) ∨ r.size = 0) : endF2 o (r, 0) = if goodF o ≠ 0 then (zeroO, goodF o) else (o, 0) := by
  unfold endF2
  rw [if_neg]
  rintro (h1 | ⟨h1, h2, h3⟩)
  · exact h1 rfl
  · rcases h with h | h
    · exact h ⟨h1, h2⟩
    · simp only at h3; omega
def DecR (w : World) (r : Obj × Int) (e : Ending) (w' : World) : Prop :=
  ∃ ve vp, e = .returned (.tuple #[.agg (objC r.1 ve vp).toArray, .int .i64 r.2]) ∧ rdE w' ve r.1.ents ∧ rdS w' vp r.1.pars ∧ Below w.heap.size w w'
end Go.Proofs.Ytmjnohblifihmaa
