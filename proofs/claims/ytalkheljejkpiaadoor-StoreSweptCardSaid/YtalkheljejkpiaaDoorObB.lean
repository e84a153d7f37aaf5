/- Texts put together: ObjectKeep Object6 Object6b Object6d. -/
import Derived.Test.YtalkheljejkpiaaDoorObA
import Derived.Test.YtalkheljejkpiaaDoorObject5
import Derived.Test.YtalkheljejkpiaaDoorBas
/-! ObjectKeep -/
namespace Go.Proofs.YtalkheljejkpiaaDoor
open Go.RowKit
set_option linter.unusedVariables false
set_option linter.unusedSimpArgs false

theorem enc_ok {o : ObjS} (h : (encodeF o).2 = 0) : goodF o = 0 ∧ (encodeF o).1 = ⟨(encO o).toArray⟩ ∧ (encO o).length ≤ 8192 := by
  by_cases h1 : goodF o = 0
  · by_cases h2 : 8192 < (encO o).length
    · rw [encodeF_2 h1 h2] at h; cases h
    · rw [encodeF_3 h1 h2]; exact ⟨h1, rfl, by omega⟩
  · rw [encodeF_1 h1] at h; exact absurd h h1
theorem enc_bad {o : ObjS} (h : (encodeF o).2 ≠ 0) : (encodeF o).1 = noB := by
  by_cases h1 : goodF o = 0
  · by_cases h2 : 8192 < (encO o).length
    · rw [encodeF_2 h1 h2]
    · rw [encodeF_3 h1 h2] at h; exact absurd rfl h
  · rw [encodeF_1 h1]
def oA : ObjS := ⟨1, ⟨#[97]⟩, [], noB, [], noB, noB, 0, noB⟩
theorem line_no : lineF noB = true := by
  have : hasP badLine noB = false := by rfl
  unfold lineF; rw [this]; rfl
theorem good_oA : goodF oA = 0 := by
  refine (goodF_8 (o := oA) (by decide) ⟨.inl rfl, .inr rfl, .inr ⟨rfl, rfl, rfl⟩, .inr rfl, .inr (.inr ⟨rfl, rfl⟩)⟩ (by decide) (by decide) rfl rfl ?_).trans (if_neg (by decide))
  intro h
  rcases h with h | h | h | h
  · exact absurd h.1 (by decide)
  · exact absurd h.1 (by decide)
  · have : lineF noB = false := h
    rw [line_no] at this; cases this
  · have : lineF noB = false := h
    rw [line_no] at this; cases this
theorem encO_oA : encO oA = [1, 1, 97] := by
  have h1 : enc (1 : Int).toNat = [1] := enc_small 1 (by omega)
  have h2 : enc (⟨#[97]⟩ : ByteArray).size = [1] := enc_small 1 (by omega)
  show enc (1 : Int).toNat ++ bodyO oA = _
  rw [h1, bodyO, if_pos (show oA.kind = 1 from rfl), encT]
  show [1] ++ (enc (⟨#[97]⟩ : ByteArray).size ++ (⟨#[97]⟩ : ByteArray).data.toList) = _
  rw [h2]; rfl
theorem encode_oA : encodeF oA = (⟨#[1, 1, 97]⟩, 0) := by
  rw [encodeF_3 good_oA (by rw [encO_oA]; decide), encO_oA]
theorem rdE_nil (w : World) : rdE w (.slice none 0 0) [] := ⟨rfl, none, 0, rfl, Nat.le_refl _, by decide, fun _ => rfl, fun _ h => by cases h⟩
theorem rdS_nil (w : World) : rdS w (.slice none 0 0) [] := ⟨rfl, none, 0, rfl, Nat.le_refl _, by decide, fun _ => rfl, fun _ h => by cases h⟩
end Go.Proofs.YtalkheljejkpiaaDoor
/-! Object6 -/
namespace Go.Proofs.YtalkheljejkpiaaDoor
open Go.RowKit
set_option linter.unusedVariables false
set_option linter.unusedSimpArgs false

theorem ob_cells' {w : World} {n : Nat} {o : ObjS} {ve vp : Value} (h : w.heap[n]? = some (.cells (objC o ve vp).toArray 54 (0, 0))) :
    w.cell? ⟨n, 0, none⟩ = some (.int .i64 o.kind) ∧ w.cell? ⟨n, 1, none⟩ = some (.string o.data) ∧ w.cell? ⟨n, 2, none⟩ = some ve ∧ w.cell? ⟨n, 3, none⟩ = some (.string o.tree) ∧ w.cell? ⟨n, 4, none⟩ = some vp ∧
    w.cell? ⟨n, 5, none⟩ = some (.string o.who) ∧ w.cell? ⟨n, 6, none⟩ = some (.string o.note) ∧ w.cell? ⟨n, 7, none⟩ = some (.int .i64 o.time) ∧ w.cell? ⟨n, 8, none⟩ = some (.string o.target) := by
  refine ⟨?_, ?_, ?_, ?_, ?_, ?_, ?_, ?_, ?_⟩ <;> simp [World.cell?, h, objC]
theorem ob_free' {w : World} {n : Nat} {o : ObjS} {ve vp : Value} (h : w.heap[n]? = some (.cells (objC o ve vp).toArray 54 (0, 0))) :
    w.frozen? ⟨n, 0, none⟩ = false ∧ w.frozen? ⟨n, 1, none⟩ = false ∧ w.frozen? ⟨n, 2, none⟩ = false ∧ w.frozen? ⟨n, 3, none⟩ = false ∧ w.frozen? ⟨n, 4, none⟩ = false ∧ w.frozen? ⟨n, 5, none⟩ = false ∧ w.frozen? ⟨n, 6, none⟩ = false ∧ w.frozen? ⟨n, 7, none⟩ = false ∧ w.frozen? ⟨n, 8, none⟩ = false := by
  refine ⟨?_, ?_, ?_, ?_, ?_, ?_, ?_, ?_, ?_⟩ <;> simp [World.frozen?, h]
theorem ob_set_id {w : World} {n : Nat} {k : Int} (h : w.heap[n]? = some (.cells (objC { zeroO with kind := k } (.slice none 0 0) (.slice none 0 0)).toArray 54 (0, 0))) :
    w.setCell ⟨n, 1, none⟩ (.string ⟨#[]⟩) = w ∧ w.setCell ⟨n, 2, none⟩ (.slice none 0 0) = w ∧ w.setCell ⟨n, 3, none⟩ (.string ⟨#[]⟩) = w ∧ w.setCell ⟨n, 4, none⟩ (.slice none 0 0) = w ∧
    w.setCell ⟨n, 5, none⟩ (.string ⟨#[]⟩) = w ∧ w.setCell ⟨n, 6, none⟩ (.string ⟨#[]⟩) = w ∧ w.setCell ⟨n, 7, none⟩ (.int .i64 0) = w ∧ w.setCell ⟨n, 8, none⟩ (.string ⟨#[]⟩) = w :=
  ⟨set_id h rfl, set_id h rfl, set_id h rfl, set_id h rfl, set_id h rfl, set_id h rfl, set_id h rfl, set_id h rfl⟩
structure DecSt (w : World) (B g q : Nat) (st : ByteArray × Int) (o : ObjS) (ve vp : Value) : Prop where
  rd : RdSt w g st
  sz : st.1.size ≤ 8192
  ob : w.heap[q]? = some (.cells (objC o ve vp).toArray 54 (0, 0))
  es : w.ownsRow B 98 3 ve o.ents.length (evs o.ents)
  ps : w.ownsRow B 9 1 vp o.pars.length (svs o.pars)
  le : B ≤ g ∧ B ≤ q ∧ B ≤ w.heap.size
theorem DecSt.one {w : World} {B g q : Nat} {st : ByteArray × Int} {o : ObjS} {ve vp : Value} (h : DecSt w B g q st o ve vp) : (objC o ve vp).toArray.all (·.oneCell') = true := by
  have h1 := owns_one h.es
  have h2 := owns_one h.ps
  simp only [objC, List.all_toArray, List.all_cons, List.all_nil, h1, h2]
  rfl
theorem DecSt.far {w : World} {B g q : Nat} {st : ByteArray × Int} {o : ObjS} {ve vp : Value} (h : DecSt w B g q st o ve vp) :
    g ≠ q ∧ ve.ownBlock ≠ some g ∧ ve.ownBlock ≠ some q ∧ vp.ownBlock ≠ some g ∧ vp.ownBlock ≠ some q ∧ (∀ k, ve.ownBlock = some k → vp.ownBlock ≠ some k) := by
  have hg := h.rd.blk
  have hq := h.ob
  refine ⟨?_, ?_, ?_, ?_, ?_, ?_⟩
  · intro e; rw [e, hq] at hg; simp at hg
  · intro e; obtain ⟨_, cs, f, hc⟩ := owns_elem h.es e; rw [hc] at hg; simp at hg
  · intro e; obtain ⟨_, cs, f, hc⟩ := owns_elem h.es e; rw [hc] at hq; simp at hq
  · intro e; obtain ⟨_, cs, f, hc⟩ := owns_elem h.ps e; rw [hc] at hg; simp at hg
  · intro e; obtain ⟨_, cs, f, hc⟩ := owns_elem h.ps e; rw [hc] at hq; simp at hq
  · intro k e1 e2
    obtain ⟨_, cs, f, hc⟩ := owns_elem h.es e1
    obtain ⟨_, cs2, f2, hc2⟩ := owns_elem h.ps e2
    rw [hc] at hc2; simp at hc2
theorem DecSt.read {w w' : World} {B g q : Nat} {st st' : ByteArray × Int} {o : ObjS} {ve vp v : Value} {e : Ending} (h : DecSt w B g q st o ve vp) (ht : RdTo w g v st' e w') (hs : st'.1.size ≤ 8192 := by assumption) :
    e = .returned v ∧ DecSt w' B g q st' o ve vp ∧ Below B w w' := by
  obtain ⟨he, hr, hu⟩ := ht
  obtain ⟨f1, f2, f3, f4, f5, _⟩ := h.far
  exact ⟨he, ⟨hr, hs, blk_upd h.ob hu (fun e => f1 e.symm), owns_upd h.es hu (fun k hk e => f2 (e ▸ hk)), owns_upd h.ps hu (fun k hk e => f4 (e ▸ hk)), h.le.1, h.le.2.1, Nat.le_trans h.le.2.2 hu.size⟩,
    hu.below h.le.2.2 (fun k hk => by rw [hk]; exact h.le.1)⟩
theorem DecSt.set {w : World} {B g q : Nat} {st : ByteArray × Int} {o o' : ObjS} {ve vp : Value} (h : DecSt w B g q st o ve vp) (i : Nat) (x : Value) (ho : (objC o ve vp).toArray.setIfInBounds i x = (objC o' ve vp).toArray) (he : o'.ents = o.ents) (hp : o'.pars = o.pars) :
    DecSt (w.setCell ⟨q, i, none⟩ x) B g q st o' ve vp ∧ Below B w (w.setCell ⟨q, i, none⟩ x) := by
  obtain ⟨f1, f2, f3, f4, f5, _⟩ := h.far
  have hu : Upd (fun k => k = q) w (w.setCell ⟨q, i, none⟩ x) := (Upd.refl (fun k => k = q) w).setCell (a := ⟨q, i, none⟩) (.inl rfl) _
  refine ⟨⟨h.rd.upd hu f1, h.sz, by rw [← ho]; exact cells_setCell h.ob i x, ?_, ?_, h.le.1, h.le.2.1, Nat.le_trans h.le.2.2 hu.size⟩, hu.below h.le.2.2 (fun k hk => by rw [hk]; exact h.le.2.1)⟩
  · rw [he]; exact owns_upd h.es hu (fun k hk e => f3 (e ▸ hk))
  · rw [hp]; exact owns_upd h.ps hu (fun k hk e => f5 (e ▸ hk))
theorem DecSt.drew {w : World} {B g q : Nat} {st : ByteArray × Int} {o : ObjS} {ve vp : Value} (h : DecSt w B g q st o ve vp) : DecSt w.drew B g q st o ve vp := ⟨⟨h.rd.blk⟩, h.sz, h.ob, h.es.drew, h.ps.drew, h.le⟩
theorem DecSt.below {w w' : World} {B g q : Nat} {st : ByteArray × Int} {o : ObjS} {ve vp : Value} (h : DecSt w B g q st o ve vp) (hb : Below w.heap.size w w') : DecSt w' B g q st o ve vp :=
  ⟨h.rd.below hb, h.sz, blk_below h.ob hb, owns_below h.es hb, owns_below h.ps hb, h.le.1, h.le.2.1, Nat.le_trans h.le.2.2 hb.size⟩
theorem set9 {w0 w : World} {B R : Nat} (h : Below B w0 w) (hB : B ≤ R) (v0 v1 v2 v3 v4 v5 v6 v7 v8 : Value) :
    Below B w0 (((((((((w.setCell ⟨R, 0, none⟩ v0).setCell ⟨R, 1, none⟩ v1).setCell ⟨R, 2, none⟩ v2).setCell ⟨R, 3, none⟩ v3).setCell ⟨R, 4, none⟩ v4).setCell ⟨R, 5, none⟩ v5).setCell ⟨R, 6, none⟩ v6).setCell ⟨R, 7, none⟩ v7).setCell ⟨R, 8, none⟩ v8) := by
  have s : ∀ {w : World} (i : Nat) (v : Value), Below B w0 w → Below B w0 (w.setCell ⟨R, i, none⟩ v) := fun i v h => h.setCell hB v
  exact s 8 _ (s 7 _ (s 6 _ (s 5 _ (s 4 _ (s 3 _ (s 2 _ (s 1 _ (s 0 _ h))))))))
theorem decodeF_none {s : ByteArray} (h : ¬ 8192 < s.size) (hr : rawF s = none) : decodeF s = (zeroO, 2) := by unfold decodeF; rw [if_neg h, hr]
theorem decodeF_some {s : ByteArray} {r : ObjS × (ByteArray × Int)} (h : ¬ 8192 < s.size) (hr : rawF s = some r) : decodeF s = endF2 r.1 r.2 := by unfold decodeF; rw [if_neg h, hr]
theorem raw_1 {s : ByteArray} {st : ByteArray × Int} (h : rNum (s, 0) = (1, st)) : rawF s = some (rawB st) := by unfold rawF; rw [h]; simp
theorem raw_2 {s : ByteArray} {st : ByteArray × Int} (h : rNum (s, 0) = (2, st)) : rawF s = rawT st := by unfold rawF; rw [h]; simp
theorem raw_3 {s : ByteArray} {st : ByteArray × Int} (h : rNum (s, 0) = (3, st)) : rawF s = some (rawC st) := by unfold rawF; rw [h]; simp
theorem raw_4 {s : ByteArray} {st : ByteArray × Int} (h : rNum (s, 0) = (4, st)) : rawF s = some (rawG st) := by unfold rawF; rw [h]; simp
theorem raw_0 {s : ByteArray} {st : ByteArray × Int} {K : Nat} (h : rNum (s, 0) = (K, st)) (h1 : K ≠ 1) (h2 : K ≠ 2) (h3 : K ≠ 3) (h4 : K ≠ 4) : rawF s = some ({ zeroO with kind := (K : Int) }, st) := by
  unfold rawF; rw [h]; simp only; rw [if_neg h1, if_neg h2, if_neg h3, if_neg h4]
theorem endF2_bad {o : ObjS} {r : ByteArray} {e : Int} (h : e ≠ 0) : endF2 o (r, e) = (zeroO, 2) := by unfold endF2; rw [if_pos (.inl h)]
theorem endF2_left {o : ObjS} {r : ByteArray} (hk : 1 ≤ o.kind ∧ o.kind ≤ 4) (h : 0 < r.size) : endF2 o (r, 0) = (zeroO, 2) := by unfold endF2; rw [if_pos (.inr ⟨hk.1, hk.2, h⟩)]
theorem endF2_good {o : ObjS} {r : ByteArray} (h : (¬ (1 ≤ o.kind ∧ o.kind ≤ 4)) ∨ r.size = 0) : endF2 o (r, 0) = if goodF o ≠ 0 then (zeroO, goodF o) else (o, 0) := by
  unfold endF2
  rw [if_neg]
  rintro (h1 | ⟨h1, h2, h3⟩)
  · exact h1 rfl
  · rcases h with h | h
    · exact h ⟨h1, h2⟩
    · simp only at h3; omega
def DecR (w : World) (r : ObjS × Int) (e : Ending) (w' : World) : Prop :=
  ∃ ve vp, e = .returned (.tuple #[.agg (objC r.1 ve vp).toArray, .int .i64 r.2]) ∧ rdE w' ve r.1.ents ∧ rdS w' vp r.1.pars ∧ Below w.heap.size w w'
end Go.Proofs.YtalkheljejkpiaaDoor
/-! Object6b -/
namespace Go.Proofs.YtalkheljejkpiaaDoor
open Go.RowKit
set_option linter.unusedVariables false
set_option linter.unusedSimpArgs false

theorem info_entry : infoIs Tryd.prog 98 (.agg #[.string ⟨#[]⟩, .bool false, .string ⟨#[]⟩]) 3 40 := by unfold infoIs; kernel_rfl
theorem DecSt.appE {w w' : World} {B g q : Nat} {st : ByteArray × Int} {o o' : ObjS} {ve vp ve' : Value} {l' : List Ent} (h : DecSt w B g q st o ve vp) (ho : w'.ownsRow B 98 3 ve' l'.length (evs l')) (hu : Upd (fun k => ve.ownBlock = some k) w w')
    (he : o' = { o with ents := l' }) : DecSt (w'.setCell ⟨q, 2, none⟩ ve') B g q st o' ve' vp ∧ Below B w (w'.setCell ⟨q, 2, none⟩ ve') := by
  obtain ⟨f1, f2, f3, f4, f5, f6⟩ := h.far
  have hob := blk_upd h.ob hu f3
  have hrd := h.rd.upd hu f2
  have hps := owns_upd h.ps hu (fun k hk e => f6 k e hk)
  have hU : Upd (fun k => k = q) w' (w'.setCell ⟨q, 2, none⟩ ve') := (Upd.refl (fun k => k = q) w').setCell (a := ⟨q, 2, none⟩) (.inl rfl) _
  have hne : ∀ k, ve'.ownBlock = some k → ¬ k = q := by
    intro k hk e
    subst e
    obtain ⟨_, cs, f, hc⟩ := owns_elem ho hk
    rw [hc] at hob; simp at hob
  have hle : B ≤ w'.heap.size := Nat.le_trans h.le.2.2 hu.size
  subst he
  refine ⟨⟨hrd.upd hU f1, h.sz, cells_setCell hob 2 ve', owns_upd ho hU hne, owns_upd hps hU (fun k hk e => f5 (e ▸ hk)), h.le.1, h.le.2.1, Nat.le_trans hle hU.size⟩, ?_⟩
  exact (hu.below h.le.2.2 (fun k hk => owns_ge h.es hk)).trans (hU.below hle (fun k hk => by rw [hk]; exact h.le.2.1))
theorem DecSt.appP {w w' : World} {B g q : Nat} {st : ByteArray × Int} {o o' : ObjS} {ve vp vp' : Value} {l' : List ByteArray} (h : DecSt w B g q st o ve vp) (ho : w'.ownsRow B 9 1 vp' l'.length (svs l')) (hu : Upd (fun k => vp.ownBlock = some k) w w')
    (he : o' = { o with pars := l' }) : DecSt (w'.setCell ⟨q, 4, none⟩ vp') B g q st o' ve vp' ∧ Below B w (w'.setCell ⟨q, 4, none⟩ vp') := by
  obtain ⟨f1, f2, f3, f4, f5, f6⟩ := h.far
  have hob := blk_upd h.ob hu f5
  have hrd := h.rd.upd hu f4
  have hes := owns_upd h.es hu (fun k hk e => f6 k hk e)
  have hU : Upd (fun k => k = q) w' (w'.setCell ⟨q, 4, none⟩ vp') := (Upd.refl (fun k => k = q) w').setCell (a := ⟨q, 4, none⟩) (.inl rfl) _
  have hne : ∀ k, vp'.ownBlock = some k → ¬ k = q := by
    intro k hk e
    subst e
    obtain ⟨_, cs, f, hc⟩ := owns_elem ho hk
    rw [hc] at hob; simp at hob
  have hle : B ≤ w'.heap.size := Nat.le_trans h.le.2.2 hu.size
  subst he
  refine ⟨⟨hrd.upd hU f1, h.sz, cells_setCell hob 4 vp', owns_upd hes hU (fun k hk e => f3 (e ▸ hk)), owns_upd ho hU hne, h.le.1, h.le.2.1, Nat.le_trans hle hU.size⟩, ?_⟩
  exact (hu.below h.le.2.2 (fun k hk => owns_ge h.ps hk)).trans (hU.below hle (fun k hk => by rw [hk]; exact h.le.2.1))
noncomputable def restT (n : Nat) (st : ByteArray × Int) (l : List Ent) : ObjS × Int := match entsL n st l with | none => (zeroO, 2) | some r => endF2 ⟨2, noB, r.1, noB, [], noB, noB, 0, noB⟩ r.2
theorem restT_end {n : Nat} {r : ByteArray} {e : Int} {l : List Ent} (h : n = 0 ∨ e ≠ 0) : restT n (r, e) l = endF2 ⟨2, noB, l, noB, [], noB, noB, 0, noB⟩ (r, e) := by
  unfold restT
  rcases h with rfl | h
  · rfl
  · cases n with
    | zero => rfl
    | succ n => rw [entsL, if_pos h]
theorem restT_wide {n d : Nat} {r nm : ByteArray} {l : List Ent} {s2 s3 : ByteArray × Int} (hn : 0 < n) (h1 : rTxt (r, 0) = (nm, s2)) (h2 : rNum s2 = (d, s3)) (h3 : 1 < d) : restT n (r, 0) l = (zeroO, 2) := by
  obtain ⟨m, rfl⟩ : ∃ m, n = m + 1 := ⟨n - 1, by omega⟩
  unfold restT
  rw [entsL, if_neg (by simp), h1]
  simp only [h2]
  rw [if_pos h3]
theorem restT_step {n d : Nat} {r nm id : ByteArray} {l : List Ent} {s2 s3 s4 : ByteArray × Int} (hn : 0 < n) (h1 : rTxt (r, 0) = (nm, s2)) (h2 : rNum s2 = (d, s3)) (h3 : ¬ 1 < d) (h4 : rByt s3 32 = (id, s4)) : restT n (r, 0) l = restT (n - 1) s4 (l ++ [⟨nm, decide (d = 1), id⟩]) := by
  obtain ⟨m, rfl⟩ : ∃ m, n = m + 1 := ⟨n - 1, by omega⟩
  unfold restT
  rw [entsL, if_neg (by simp), h1]
  simp only [h2, h4]
  rw [if_neg h3]
  rfl
theorem decodeF_T {s : ByteArray} {st1 st2 : ByteArray × Int} {cn : Nat} (h : ¬ 8192 < s.size) (h1 : rNum (s, 0) = (2, st1)) (h2 : rNum st1 = (cn, st2)) : decodeF s = restT cn st2 [] := by
  unfold decodeF restT
  rw [if_neg h, raw_2 h1]
  unfold rawT
  rw [h2]
  cases hE : entsL cn st2 [] with
  | none => rfl
  | some r => rfl
noncomputable def restC (tr : ByteArray) (n : Nat) (st : ByteArray × Int) (l : List ByteArray) : ObjS × Int :=
  endF2 ⟨3, noB, [], tr, (parsL n st l).1, (rTxt (parsL n st l).2).1, (rTxt (rNum (rTxt (parsL n st l).2).2).2).1, ((rNum (rTxt (parsL n st l).2).2).1 : Int), noB⟩ (rTxt (rNum (rTxt (parsL n st l).2).2).2).2
theorem restC_end {n tt : Nat} {tr tw tn r : ByteArray} {e : Int} {l : List ByteArray} {s2 s3 s4 : ByteArray × Int} (h : n = 0 ∨ e ≠ 0) (h1 : rTxt (r, e) = (tw, s2)) (h2 : rNum s2 = (tt, s3)) (h3 : rTxt s3 = (tn, s4)) :
    restC tr n (r, e) l = endF2 ⟨3, noB, [], tr, l, tw, tn, (tt : Int), noB⟩ s4 := by
  have hp : parsL n (r, e) l = (l, (r, e)) := by
    rcases h with rfl | h
    · rfl
    · cases n with
      | zero => rfl
      | succ n => rw [parsL, if_pos h]
  unfold restC
  simp only [hp, h1, h2, h3]
theorem restC_step {n : Nat} {tr r id : ByteArray} {l : List ByteArray} {s2 : ByteArray × Int} (hn : 0 < n) (h1 : rByt (r, 0) 32 = (id, s2)) : restC tr n (r, 0) l = restC tr (n - 1) s2 (l ++ [id]) := by
  obtain ⟨m, rfl⟩ : ∃ m, n = m + 1 := ⟨n - 1, by omega⟩
  have hp : parsL (m + 1) (r, 0) l = parsL (m + 1 - 1) s2 (l ++ [id]) := by rw [parsL, if_neg (by simp), h1]; rfl
  unfold restC
  rw [hp]
theorem decodeF_C {s tr : ByteArray} {st1 st2 st3 : ByteArray × Int} {cn : Nat} (h : ¬ 8192 < s.size) (h1 : rNum (s, 0) = (3, st1)) (h2 : rByt st1 32 = (tr, st2)) (h3 : rNum st2 = (cn, st3)) : decodeF s = restC tr cn st3 [] := by
  rw [decodeF_some h (raw_3 h1)]
  unfold rawC restC
  simp only [h2, h3]
  rfl
theorem en_cells {w : World} {x : Nat} {a c : ByteArray} {b : Bool} (h : w.heap[x]? = some (.cells #[.string a, .bool b, .string c] 98 (0, 0))) :
    w.cell? ⟨x, 0, none⟩ = some (.string a) ∧ w.cell? ⟨x, 1, none⟩ = some (.bool b) ∧ w.cell? ⟨x, 2, none⟩ = some (.string c) ∧ w.frozen? ⟨x, 0, none⟩ = false ∧ w.frozen? ⟨x, 1, none⟩ = false ∧ w.frozen? ⟨x, 2, none⟩ = false := by
  refine ⟨?_, ?_, ?_, ?_, ?_, ?_⟩ <;> simp [World.cell?, World.frozen?, h]
theorem DecSt.other {w w' : World} {B g q x : Nat} {st : ByteArray × Int} {o : ObjS} {ve vp : Value} (h : DecSt w B g q st o ve vp) (hu : Upd (fun k => k = x) w w') (h1 : g ≠ x) (h2 : q ≠ x) (h3 : ∀ k, ve.ownBlock = some k → k ≠ x) (h4 : ∀ k, vp.ownBlock = some k → k ≠ x) (hB : B ≤ x) :
    DecSt w' B g q st o ve vp ∧ Below B w w' :=
  ⟨⟨h.rd.upd hu h1, h.sz, blk_upd h.ob hu h2, owns_upd h.es hu h3, owns_upd h.ps hu h4, h.le.1, h.le.2.1, Nat.le_trans h.le.2.2 hu.size⟩, hu.below h.le.2.2 (fun k hk => by rw [hk]; exact hB)⟩
theorem evs_append (a b : List Ent) : evs (a ++ b) = evs a ++ evs b := by simp [evs]
end Go.Proofs.YtalkheljejkpiaaDoor
/-! Object6d -/
namespace Go.Proofs.YtalkheljejkpiaaDoor
open Go.RowKit
set_option linter.unusedVariables false
set_option linter.unusedSimpArgs false

set_option maxRecDepth 100000 in
set_option maxHeartbeats 3200000 in
theorem decode_any (s : ByteArray) (w : World) (hs : s.size ≤ 9223372036854775807) : Calls Tryd.prog 27 #[.string s] w (DecR w (decodeF s)) := by
  obtain ⟨F, hF⟩ : ∃ F, F = decodeF s := ⟨_, rfl⟩
  rw [← hF]
  have HF := Lib.hid hF
  clear hF
  obtain ⟨W, hW⟩ : ∃ W, w.alloc (.cells #[.int .i64 0, .string ⟨#[]⟩, .slice none 0 0, .string ⟨#[]⟩, .slice none 0 0, .string ⟨#[]⟩, .string ⟨#[]⟩, .int .i64 0, .string ⟨#[]⟩] 54) = W := ⟨_, rfl⟩
  have gR0 : W.heap[w.heap.size]? = some (.cells #[.int .i64 0, .string ⟨#[]⟩, .slice none 0 0, .string ⟨#[]⟩, .slice none 0 0, .string ⟨#[]⟩, .string ⟨#[]⟩, .int .i64 0, .string ⟨#[]⟩] 54 (0, 0)) := by rw [← hW]; exact heap_alloc_new _ _
  have hb1 : Below w.heap.size w W := by rw [← hW]; exact (Below.refl _ _).alloc (Nat.le_refl _) _
  have HW0 := Lib.hid hb1
  have HGR := Lib.hid (fun wr (h : Below W.heap.size W wr) => blk_below gR0 h)
  by_cases hbig : 8192 < s.size
  · have f1 : decide ((8192 : Int) < (s.size : Int)) = true := decide_eq_true (by omega)
    have f2 : decide (8192 < s.size) = true := decide_eq_true hbig
    have hF : F = (zeroO, 1) := by rw [HF.out, decodeF, if_pos hbig]
    subst hF
    clear HF hbig hb1
    go_enter Tryd.func27, Tryd.ntmps27
    obtain ⟨r0, r1, r2, r3, r4, r5, r6, r7, r8⟩ := ob_cells' (o := zeroO) (ve := .slice none 0 0) (vp := .slice none 0 0) gR0
    obtain ⟨y0, y1, y2, y3, y4, y5, y6, y7, y8⟩ := ob_free' (o := zeroO) (ve := .slice none 0 0) (vp := .slice none 0 0) gR0
    go_wp2_with fail
    refine bodyPost_ret (v := .tuple #[.agg (objC zeroO (.slice none 0 0) (.slice none 0 0)).toArray, .int .i64 1]) ?_ rfl ⟨.slice none 0 0, .slice none 0 0, rfl, rdE_nil _, rdS_nil _, ?_⟩
    · simp [results, Tryd.f27, go_sem, objC, zeroO, noB, r0, r1, r2, r3, r4, r5, r6, r7, r8]
    · exact set9 HW0.out (by omega) _ _ _ _ _ _ _ _ _
  · have f1 : decide ((8192 : Int) < (s.size : Int)) = false := decide_eq_false (by omega)
    have f2 : decide (8192 < s.size) = false := decide_eq_false hbig
    have HNB := Lib.hid hbig
    have HFF := Lib.hid HF.out
    have HRDA := Lib.hid (read_any s W)
    clear HF hb1
    go_enter Tryd.func27, Tryd.ntmps27
    go_wp2_with fail
    (with_reducible refine HRDA.out.mono ?_)
    rintro e w1 ⟨rfl, hr1, hb1, hz1⟩
    have HB1 := Lib.hid hb1
    have HN1 := Lib.hid (rNumber_any hr1 (by show s.size ≤ _; unfold maxLen; omega))
    have hle1 := rNum_le (s, 0)
    have h62 := rNum_62 (s, 0)
    obtain ⟨⟨K, st1⟩, hq1⟩ : ∃ q, q = rNum (s, 0) := ⟨_, rfl⟩
    rw [← hq1] at HN1 hle1 h62
    have HQ1 := Lib.hid hq1
    have hst1 : st1.1.size ≤ 8192 := Nat.le_trans hle1 (by show s.size ≤ 8192; omega)
    obtain ⟨g, hgd⟩ : ∃ g, W.heap.size = g := ⟨_, rfl⟩
    rw [hgd] at HN1 hr1 hz1 ⊢
    clear hW hr1 hq1 hle1 HRDA hb1
    go_wp2_with fail
    (with_reducible refine HN1.out.mono ?_)
    rintro e w2 ⟨rfl, hr2, hu2⟩
    have HB2 := Lib.hid (HB1.out.trans (hu2.below (by omega) (fun k hk => by omega)))
    have hsz2 : g + 1 ≤ w2.heap.size := by have := hu2.size; omega
    have HR2 := Lib.hid hr2
    obtain ⟨q, hqd⟩ : ∃ q, w2.heap.size = q := ⟨_, rfl⟩
    obtain ⟨V, hV⟩ : ∃ V, w2.alloc (.cells (objC { zeroO with kind := (K : Int) } (.slice none 0 0) (.slice none 0 0)).toArray 54) = V := ⟨_, rfl⟩
    have hbv : Below w2.heap.size w2 V := by rw [← hV]; exact (Below.refl _ _).alloc (Nat.le_refl _) _
    have HB3 := Lib.hid (HB2.out.trans (hbv.mono HB2.out.size))
    have HD3 := Lib.hid (show DecSt V W.heap.size g q st1 { zeroO with kind := (K : Int) } (.slice none 0 0) (.slice none 0 0) from ⟨hr2.below hbv, hst1, by rw [← hV, ← hqd]; exact heap_alloc_new _ _, World.ownsRow_nil _ _ _ _, World.ownsRow_nil _ _ _ _, by omega, by omega, HB3.out.size⟩)
    have hV' : w2.alloc (.cells #[.int .i64 (K : Int), .string ⟨#[]⟩, .slice none 0 0, .string ⟨#[]⟩, .slice none 0 0, .string ⟨#[]⟩, .string ⟨#[]⟩, .int .i64 0, .string ⟨#[]⟩] 54) = V := hV
    obtain ⟨c0, c1, c2, c3, c4, c5, c6, c7, c8⟩ := ob_cells' HD3.out.ob
    obtain ⟨z0, z1, z2, z3, z4, z5, z6, z7, z8⟩ := ob_free' HD3.out.ob
    clear hV hbv hr2 hu2 HN1 hz1
    have HQ1' := Lib.hid HQ1.out.symm
    clear HQ1
    by_cases k1 : K = 1
    · subst k1
      have HD3' := Lib.hid (show DecSt V W.heap.size g q st1 { zeroO with kind := 1 } (.slice none 0 0) (.slice none 0 0) from HD3.out)
      clear HD3
      have HD3 := Lib.hid HD3'.out
      clear HD3'
      have hV2 : w2.alloc (.cells #[.int .i64 1, .string ⟨#[]⟩, .slice none 0 0, .string ⟨#[]⟩, .slice none 0 0, .string ⟨#[]⟩, .string ⟨#[]⟩, .int .i64 0, .string ⟨#[]⟩] 54) = V := hV'
      clear hV'
      clear c0 c1 c2 c3 c4 c5 c6 c7 c8 z0 z1 z2 z3 z4 z5 z6 z7 z8
      obtain ⟨c0, c1, c2, c3, c4, c5, c6, c7, c8⟩ := ob_cells' HD3.out.ob
      obtain ⟨z0, z1, z2, z3, z4, z5, z6, z7, z8⟩ := ob_free' HD3.out.ob
      obtain ⟨i1, i2, i3, i4, i5, i6, i7, i8⟩ := ob_set_id HD3.out.ob
      have HC4 := Lib.hid (rText_any HD3.out.rd (by have := HD3.out.sz; omega))
      have hle4 := rTxt_le st1
      obtain ⟨⟨td, st2⟩, hq4⟩ : ∃ q, q = rTxt st1 := ⟨_, rfl⟩
      rw [← hq4] at HC4 hle4
      have HQ4 := Lib.hid hq4.symm
      have hsz4 : st2.1.size ≤ 8192 := Nat.le_trans hle4 HD3.out.sz
      clear hq4 hle4
      go_wp2_with fail
      (with_reducible refine HC4.out.mono ?_)
      rintro e w4 hto
      obtain ⟨rfl, hd4, hb4⟩ := HD3.out.read hto hsz4
      have HD4 := Lib.hid hd4
      have HB4 := Lib.hid (HB3.out.trans hb4)
      clear hto hd4 hb4 HC4 hsz4
      clear c0 c1 c2 c3 c4 c5 c6 c7 c8 z0 z1 z2 z3 z4 z5 z6 z7 z8
      obtain ⟨c0, c1, c2, c3, c4, c5, c6, c7, c8⟩ := ob_cells' HD4.out.ob
      obtain ⟨z0, z1, z2, z3, z4, z5, z6, z7, z8⟩ := ob_free' HD4.out.ob
      obtain ⟨hd5, hb5⟩ := HD4.out.set 1 (.string td) (o' := (⟨1, td, [], noB, [], noB, noB, 0, noB⟩ : ObjS)) rfl rfl rfl
      have HD5 := Lib.hid hd5
      have HB5 := Lib.hid (HB4.out.trans hb5)
      clear hd5 hb5
      obtain ⟨rr, er⟩ := st2
      have HRAW := Lib.hid (HFF.out.trans ((decodeF_some HNB.out (raw_1 HQ1'.out)).trans (show endF2 (rawB st1).1 (rawB st1).2 = endF2 (⟨1, td, [], noB, [], noB, noB, 0, noB⟩ : ObjS) (rr, er) by unfold rawB; rw [HQ4.out]; rfl)))
      have HKR := Lib.hid (show 1 ≤ (⟨1, td, [], noB, [], noB, noB, 0, noB⟩ : ObjS).kind ∧ (⟨1, td, [], noB, [], noB, noB, 0, noB⟩ : ObjS).kind ≤ 4 from ⟨(by decide : (1 : Int) ≤ 1), (by decide : (1 : Int) ≤ 4)⟩)
      have HCb := Lib.hid (rBad_any HD5.out.rd)
      go_wp2_with fail
      (with_reducible refine HCb.out.mono ?_)
      rintro e w0 ⟨rfl, rfl⟩
      clear c0 c1 c2 c3 c4 c5 c6 c7 c8 z0 z1 z2 z3 z4 z5 z6 z7 z8
      obtain ⟨c0, c1, c2, c3, c4, c5, c6, c7, c8⟩ := ob_cells' HD5.out.ob
      obtain ⟨z0, z1, z2, z3, z4, z5, z6, z7, z8⟩ := ob_free' HD5.out.ob
      by_cases her : er = 0
      · subst her
        have HCl := Lib.hid (rLeft_any HD5.out.rd)
        go_wp2_with fail
        (with_reducible refine HCl.out.mono ?_)
        rintro e w0 ⟨rfl, rfl⟩
        by_cases hleft : 0 < rr.size
        · have hF := HRAW.out.trans (endF2_left HKR.out hleft)
          subst hF
          have h1 : decide ((0 : Int) < (rr.size : Int)) = true := decide_eq_true (by omega)
          have h2 : decide (0 < rr.size) = true := decide_eq_true hleft
          clear hleft
          obtain ⟨r0, r1, r2, r3, r4, r5, r6, r7, r8⟩ := ob_cells' (o := zeroO) (ve := .slice none 0 0) (vp := .slice none 0 0) (HGR.out _ HB5.out)
          obtain ⟨y0, y1, y2, y3, y4, y5, y6, y7, y8⟩ := ob_free' (o := zeroO) (ve := .slice none 0 0) (vp := .slice none 0 0) (HGR.out _ HB5.out)
          go_wp2_with fail
          refine bodyPost_ret (v := .tuple #[.agg (objC zeroO (.slice none 0 0) (.slice none 0 0)).toArray, .int .i64 (2)]) ?_ rfl ⟨.slice none 0 0, .slice none 0 0, rfl, rdE_nil _, rdS_nil _, ?_⟩
          · simp [results, Tryd.f27, go_sem, objC, zeroO, noB, r0, r1, r2, r3, r4, r5, r6, r7, r8]
          · exact set9 (HW0.out.trans (HB5.out.mono HW0.out.size)) (by have := HW0.out.size; omega) _ _ _ _ _ _ _ _ _
        · have h1 : decide ((0 : Int) < (rr.size : Int)) = false := decide_eq_false (by omega)
          have h2 : decide (0 < rr.size) = false := decide_eq_false hleft
          have HFG := Lib.hid (HRAW.out.trans (endF2_good (.inr (by omega))))
          clear hleft
          have HCg := Lib.hid (ogood_any _ _ _ _ (rdRow_of_owns HD5.out.es) (rdRow_of_owns HD5.out.ps))
          obtain ⟨gq, hgq⟩ : ∃ e : Int, e = goodF (⟨1, td, [], noB, [], noB, noB, 0, noB⟩ : ObjS) := ⟨_, rfl⟩
          have gob := HD5.out.ob
          have HGQ := Lib.hid hgq
          rw [← hgq] at HCg HFG
          clear hgq
          go_wp2_with (first | (refine wpList_load_blk (by rfl) 54 (.tmp 5) rfl q rfl (.agg (objC (⟨1, td, [], noB, [], noB, noB, 0, noB⟩ : ObjS) _ _).toArray) rfl gob Tryd.underlying54 rfl (by kernel_rfl) ?_))
          (with_reducible refine HCg.out.mono ?_)
          rintro e w9 ⟨rfl, hb9⟩
          have HB9 := Lib.hid (HB5.out.trans (hb9.mono HD5.out.le.2.2))
          have HD9 := Lib.hid (HD5.out.below hb9)
          clear hb9 gob HCg
          clear c0 c1 c2 c3 c4 c5 c6 c7 c8 z0 z1 z2 z3 z4 z5 z6 z7 z8
          obtain ⟨c0, c1, c2, c3, c4, c5, c6, c7, c8⟩ := ob_cells' HD9.out.ob
          obtain ⟨z0, z1, z2, z3, z4, z5, z6, z7, z8⟩ := ob_free' HD9.out.ob
          by_cases hg0 : gq = 0
          · have hF := HFG.out.trans (if_neg (by simpa using hg0))
            subst hF hg0
            have gob9 := HD9.out.ob
            have gR9 := HGR.out _ HB9.out
            have hone9 := HD9.out.one
            go_wp2_with (first | (refine wpList_load_blk (by rfl) 54 (.tmp 5) rfl q rfl (.agg (objC (⟨1, td, [], noB, [], noB, noB, 0, noB⟩ : ObjS) _ _).toArray) rfl gob9 Tryd.underlying54 rfl (by kernel_rfl) ?_) | (refine wpList_store_blk (by rfl) 54 (.tmp 2) (.tmp 128) rfl w.heap.size (objC (⟨1, td, [], noB, [], noB, noB, 0, noB⟩ : ObjS) _ _).toArray rfl rfl gR9 info_ob rfl hone9 ?_; intro wz hRz hUz))
            obtain ⟨r0, r1, r2, r3, r4, r5, r6, r7, r8⟩ := ob_cells' hRz
            have hlt : w.heap.size < W.heap.size := lt_of_block (HGR.out _ (Below.refl _ _))
            refine bodyPost_ret (v := .tuple #[.agg (objC (⟨1, td, [], noB, [], noB, noB, 0, noB⟩ : ObjS) (.slice none 0 0) (.slice none 0 0)).toArray, .int .i64 0]) ?_ rfl ⟨_, _, rfl, rdRow_of_owns (owns_upd HD9.out.es hUz (fun k hk e => by have := owns_ge HD9.out.es hk; omega)), rdRow_of_owns (owns_upd HD9.out.ps hUz (fun k hk e => by have := owns_ge HD9.out.ps hk; omega)), below_upd (HW0.out.trans (HB9.out.mono HW0.out.size)) hUz (Nat.le_refl _) (by have := HW0.out.size; have := HB9.out.size; omega)⟩
            simp [results, Tryd.f27, go_sem, objC, r0, r1, r2, r3, r4, r5, r6, r7, r8]
          · have h1 : (gq == 0) = false := beq_eq_false_iff_ne.2 hg0
            have h2 : (gq != 0) = true := by rw [bne, h1]; rfl
            have hF := HFG.out.trans (if_pos hg0)
            subst hF
            clear hg0
            obtain ⟨r0, r1, r2, r3, r4, r5, r6, r7, r8⟩ := ob_cells' (o := zeroO) (ve := .slice none 0 0) (vp := .slice none 0 0) (HGR.out _ HB9.out)
            obtain ⟨y0, y1, y2, y3, y4, y5, y6, y7, y8⟩ := ob_free' (o := zeroO) (ve := .slice none 0 0) (vp := .slice none 0 0) (HGR.out _ HB9.out)
            go_wp2_with fail
            refine bodyPost_ret (v := .tuple #[.agg (objC zeroO (.slice none 0 0) (.slice none 0 0)).toArray, .int .i64 (gq)]) ?_ rfl ⟨.slice none 0 0, .slice none 0 0, rfl, rdE_nil _, rdS_nil _, ?_⟩
            · simp [results, Tryd.f27, go_sem, objC, zeroO, noB, r0, r1, r2, r3, r4, r5, r6, r7, r8]
            · exact set9 (HW0.out.trans (HB9.out.mono HW0.out.size)) (by have := HW0.out.size; omega) _ _ _ _ _ _ _ _ _
      · have h1 : (er == 0) = false := beq_eq_false_iff_ne.2 her
        have h2 : (er != 0) = true := by rw [bne, h1]; rfl
        have hF := HRAW.out.trans (endF2_bad her)
        subst hF
        clear her
        obtain ⟨r0, r1, r2, r3, r4, r5, r6, r7, r8⟩ := ob_cells' (o := zeroO) (ve := .slice none 0 0) (vp := .slice none 0 0) (HGR.out _ HB5.out)
        obtain ⟨y0, y1, y2, y3, y4, y5, y6, y7, y8⟩ := ob_free' (o := zeroO) (ve := .slice none 0 0) (vp := .slice none 0 0) (HGR.out _ HB5.out)
        go_wp2_with fail
        refine bodyPost_ret (v := .tuple #[.agg (objC zeroO (.slice none 0 0) (.slice none 0 0)).toArray, .int .i64 (2)]) ?_ rfl ⟨.slice none 0 0, .slice none 0 0, rfl, rdE_nil _, rdS_nil _, ?_⟩
        · simp [results, Tryd.f27, go_sem, objC, zeroO, noB, r0, r1, r2, r3, r4, r5, r6, r7, r8]
        · exact set9 (HW0.out.trans (HB5.out.mono HW0.out.size)) (by have := HW0.out.size; omega) _ _ _ _ _ _ _ _ _
    · by_cases k4 : K = 4
      · subst k4
        have HD3' := Lib.hid (show DecSt V W.heap.size g q st1 { zeroO with kind := 4 } (.slice none 0 0) (.slice none 0 0) from HD3.out)
        clear HD3
        have HD3 := Lib.hid HD3'.out
        clear HD3'
        have hV2 : w2.alloc (.cells #[.int .i64 4, .string ⟨#[]⟩, .slice none 0 0, .string ⟨#[]⟩, .slice none 0 0, .string ⟨#[]⟩, .string ⟨#[]⟩, .int .i64 0, .string ⟨#[]⟩] 54) = V := hV'
        clear hV'
        clear c0 c1 c2 c3 c4 c5 c6 c7 c8 z0 z1 z2 z3 z4 z5 z6 z7 z8
        obtain ⟨c0, c1, c2, c3, c4, c5, c6, c7, c8⟩ := ob_cells' HD3.out.ob
        obtain ⟨z0, z1, z2, z3, z4, z5, z6, z7, z8⟩ := ob_free' HD3.out.ob
        obtain ⟨i1, i2, i3, i4, i5, i6, i7, i8⟩ := ob_set_id HD3.out.ob
        have HC4 := Lib.hid (rBytes_any HD3.out.rd (by have := HD3.out.sz; omega) 32)
        have hle4 := rByt_le st1 32
        obtain ⟨⟨tg, st2⟩, hq4⟩ : ∃ q, q = rByt st1 32 := ⟨_, rfl⟩
        rw [← hq4] at HC4 hle4
        have HQ4 := Lib.hid hq4.symm
        have hsz4 : st2.1.size ≤ 8192 := Nat.le_trans hle4 HD3.out.sz
        clear hq4 hle4
        go_wp2_with fail
        (with_reducible refine HC4.out.mono ?_)
        rintro e w4 hto
        obtain ⟨rfl, hd4, hb4⟩ := HD3.out.read hto hsz4
        have HD4 := Lib.hid hd4
        have HB4 := Lib.hid (HB3.out.trans hb4)
        clear hto hd4 hb4 HC4 hsz4
        clear c0 c1 c2 c3 c4 c5 c6 c7 c8 z0 z1 z2 z3 z4 z5 z6 z7 z8
        obtain ⟨c0, c1, c2, c3, c4, c5, c6, c7, c8⟩ := ob_cells' HD4.out.ob
        obtain ⟨z0, z1, z2, z3, z4, z5, z6, z7, z8⟩ := ob_free' HD4.out.ob
        obtain ⟨hd5, hb5⟩ := HD4.out.set 8 (.string tg) (o' := (⟨4, noB, [], noB, [], noB, noB, 0, tg⟩ : ObjS)) rfl rfl rfl
        have HD5 := Lib.hid hd5
        have HB5 := Lib.hid (HB4.out.trans hb5)
        clear hd5 hb5
        clear c0 c1 c2 c3 c4 c5 c6 c7 c8 z0 z1 z2 z3 z4 z5 z6 z7 z8
        obtain ⟨c0, c1, c2, c3, c4, c5, c6, c7, c8⟩ := ob_cells' HD4.out.ob
        obtain ⟨z0, z1, z2, z3, z4, z5, z6, z7, z8⟩ := ob_free' HD4.out.ob
        have HC6 := Lib.hid (rText_any HD5.out.rd (by have := HD5.out.sz; omega))
        have hle6 := rTxt_le st2
        obtain ⟨⟨tw, st3⟩, hq6⟩ : ∃ q, q = rTxt st2 := ⟨_, rfl⟩
        rw [← hq6] at HC6 hle6
        have HQ6 := Lib.hid hq6.symm
        have hsz6 : st3.1.size ≤ 8192 := Nat.le_trans hle6 HD5.out.sz
        clear hq6 hle6
        go_wp2_with fail
        (with_reducible refine HC6.out.mono ?_)
        rintro e w6 hto
        obtain ⟨rfl, hd6, hb6⟩ := HD5.out.read hto hsz6
        have HD6 := Lib.hid hd6
        have HB6 := Lib.hid (HB5.out.trans hb6)
        clear hto hd6 hb6 HC6 hsz6
        clear c0 c1 c2 c3 c4 c5 c6 c7 c8 z0 z1 z2 z3 z4 z5 z6 z7 z8
        obtain ⟨c0, c1, c2, c3, c4, c5, c6, c7, c8⟩ := ob_cells' HD6.out.ob
        obtain ⟨z0, z1, z2, z3, z4, z5, z6, z7, z8⟩ := ob_free' HD6.out.ob
        obtain ⟨hd7, hb7⟩ := HD6.out.set 5 (.string tw) (o' := (⟨4, noB, [], noB, [], tw, noB, 0, tg⟩ : ObjS)) rfl rfl rfl
        have HD7 := Lib.hid hd7
        have HB7 := Lib.hid (HB6.out.trans hb7)
        clear hd7 hb7
        have HC8 := Lib.hid (rText_any HD7.out.rd (by have := HD7.out.sz; omega))
        have hle8 := rTxt_le st3
        obtain ⟨⟨tn, st4⟩, hq8⟩ : ∃ q, q = rTxt st3 := ⟨_, rfl⟩
        rw [← hq8] at HC8 hle8
        have HQ8 := Lib.hid hq8.symm
        have hsz8 : st4.1.size ≤ 8192 := Nat.le_trans hle8 HD7.out.sz
        clear hq8 hle8
        go_wp2_with fail
        (with_reducible refine HC8.out.mono ?_)
        rintro e w8 hto
        obtain ⟨rfl, hd8, hb8⟩ := HD7.out.read hto hsz8
        have HD8 := Lib.hid hd8
        have HB8 := Lib.hid (HB7.out.trans hb8)
        clear hto hd8 hb8 HC8 hsz8
        clear c0 c1 c2 c3 c4 c5 c6 c7 c8 z0 z1 z2 z3 z4 z5 z6 z7 z8
        obtain ⟨c0, c1, c2, c3, c4, c5, c6, c7, c8⟩ := ob_cells' HD8.out.ob
        obtain ⟨z0, z1, z2, z3, z4, z5, z6, z7, z8⟩ := ob_free' HD8.out.ob
        obtain ⟨hd9x, hb9x⟩ := HD8.out.set 6 (.string tn) (o' := (⟨4, noB, [], noB, [], tw, tn, 0, tg⟩ : ObjS)) rfl rfl rfl
        have HD9x := Lib.hid hd9x
        have HB9x := Lib.hid (HB8.out.trans hb9x)
        clear hd9x hb9x
        obtain ⟨rr, er⟩ := st4
        have HRAW := Lib.hid (HFF.out.trans ((decodeF_some HNB.out (raw_4 HQ1'.out)).trans (show endF2 (rawG st1).1 (rawG st1).2 = endF2 (⟨4, noB, [], noB, [], tw, tn, 0, tg⟩ : ObjS) (rr, er) by unfold rawG; simp only; rw [HQ4.out]; simp only; rw [HQ6.out]; simp only; rw [HQ8.out]; rfl)))
        have HKR := Lib.hid (show 1 ≤ (⟨4, noB, [], noB, [], tw, tn, 0, tg⟩ : ObjS).kind ∧ (⟨4, noB, [], noB, [], tw, tn, 0, tg⟩ : ObjS).kind ≤ 4 from ⟨(by decide : (1 : Int) ≤ 4), (by decide : (4 : Int) ≤ 4)⟩)
        have HCb := Lib.hid (rBad_any HD9x.out.rd)
        go_wp2_with fail
        (with_reducible refine HCb.out.mono ?_)
        rintro e w0 ⟨rfl, rfl⟩
        clear c0 c1 c2 c3 c4 c5 c6 c7 c8 z0 z1 z2 z3 z4 z5 z6 z7 z8
        obtain ⟨c0, c1, c2, c3, c4, c5, c6, c7, c8⟩ := ob_cells' HD9x.out.ob
        obtain ⟨z0, z1, z2, z3, z4, z5, z6, z7, z8⟩ := ob_free' HD9x.out.ob
        by_cases her : er = 0
        · subst her
          have HCl := Lib.hid (rLeft_any HD9x.out.rd)
          go_wp2_with fail
          (with_reducible refine HCl.out.mono ?_)
          rintro e w0 ⟨rfl, rfl⟩
          by_cases hleft : 0 < rr.size
          · have hF := HRAW.out.trans (endF2_left HKR.out hleft)
            subst hF
            have h1 : decide ((0 : Int) < (rr.size : Int)) = true := decide_eq_true (by omega)
            have h2 : decide (0 < rr.size) = true := decide_eq_true hleft
            clear hleft
            obtain ⟨r0, r1, r2, r3, r4, r5, r6, r7, r8⟩ := ob_cells' (o := zeroO) (ve := .slice none 0 0) (vp := .slice none 0 0) (HGR.out _ HB9x.out)
            obtain ⟨y0, y1, y2, y3, y4, y5, y6, y7, y8⟩ := ob_free' (o := zeroO) (ve := .slice none 0 0) (vp := .slice none 0 0) (HGR.out _ HB9x.out)
            go_wp2_with fail
            refine bodyPost_ret (v := .tuple #[.agg (objC zeroO (.slice none 0 0) (.slice none 0 0)).toArray, .int .i64 (2)]) ?_ rfl ⟨.slice none 0 0, .slice none 0 0, rfl, rdE_nil _, rdS_nil _, ?_⟩
            · simp [results, Tryd.f27, go_sem, objC, zeroO, noB, r0, r1, r2, r3, r4, r5, r6, r7, r8]
            · exact set9 (HW0.out.trans (HB9x.out.mono HW0.out.size)) (by have := HW0.out.size; omega) _ _ _ _ _ _ _ _ _
          · have h1 : decide ((0 : Int) < (rr.size : Int)) = false := decide_eq_false (by omega)
            have h2 : decide (0 < rr.size) = false := decide_eq_false hleft
            have HFG := Lib.hid (HRAW.out.trans (endF2_good (.inr (by omega))))
            clear hleft
            have HCg := Lib.hid (ogood_any _ _ _ _ (rdRow_of_owns HD9x.out.es) (rdRow_of_owns HD9x.out.ps))
            obtain ⟨gq, hgq⟩ : ∃ e : Int, e = goodF (⟨4, noB, [], noB, [], tw, tn, 0, tg⟩ : ObjS) := ⟨_, rfl⟩
            have gob := HD9x.out.ob
            have HGQ := Lib.hid hgq
            rw [← hgq] at HCg HFG
            clear hgq
            go_wp2_with (first | (refine wpList_load_blk (by rfl) 54 (.tmp 5) rfl q rfl (.agg (objC (⟨4, noB, [], noB, [], tw, tn, 0, tg⟩ : ObjS) _ _).toArray) rfl gob Tryd.underlying54 rfl (by kernel_rfl) ?_))
            (with_reducible refine HCg.out.mono ?_)
            rintro e w9 ⟨rfl, hb9⟩
            have HB9 := Lib.hid (HB9x.out.trans (hb9.mono HD9x.out.le.2.2))
            have HD9 := Lib.hid (HD9x.out.below hb9)
            clear hb9 gob HCg
            clear c0 c1 c2 c3 c4 c5 c6 c7 c8 z0 z1 z2 z3 z4 z5 z6 z7 z8
            obtain ⟨c0, c1, c2, c3, c4, c5, c6, c7, c8⟩ := ob_cells' HD9.out.ob
            obtain ⟨z0, z1, z2, z3, z4, z5, z6, z7, z8⟩ := ob_free' HD9.out.ob
            by_cases hg0 : gq = 0
            · have hF := HFG.out.trans (if_neg (by simpa using hg0))
              subst hF hg0
              have gob9 := HD9.out.ob
              have gR9 := HGR.out _ HB9.out
              have hone9 := HD9.out.one
              go_wp2_with (first | (refine wpList_load_blk (by rfl) 54 (.tmp 5) rfl q rfl (.agg (objC (⟨4, noB, [], noB, [], tw, tn, 0, tg⟩ : ObjS) _ _).toArray) rfl gob9 Tryd.underlying54 rfl (by kernel_rfl) ?_) | (refine wpList_store_blk (by rfl) 54 (.tmp 2) (.tmp 128) rfl w.heap.size (objC (⟨4, noB, [], noB, [], tw, tn, 0, tg⟩ : ObjS) _ _).toArray rfl rfl gR9 info_ob rfl hone9 ?_; intro wz hRz hUz))
              obtain ⟨r0, r1, r2, r3, r4, r5, r6, r7, r8⟩ := ob_cells' hRz
              have hlt : w.heap.size < W.heap.size := lt_of_block (HGR.out _ (Below.refl _ _))
              refine bodyPost_ret (v := .tuple #[.agg (objC (⟨4, noB, [], noB, [], tw, tn, 0, tg⟩ : ObjS) (.slice none 0 0) (.slice none 0 0)).toArray, .int .i64 0]) ?_ rfl ⟨_, _, rfl, rdRow_of_owns (owns_upd HD9.out.es hUz (fun k hk e => by have := owns_ge HD9.out.es hk; omega)), rdRow_of_owns (owns_upd HD9.out.ps hUz (fun k hk e => by have := owns_ge HD9.out.ps hk; omega)), below_upd (HW0.out.trans (HB9.out.mono HW0.out.size)) hUz (Nat.le_refl _) (by have := HW0.out.size; have := HB9.out.size; omega)⟩
              simp [results, Tryd.f27, go_sem, objC, r0, r1, r2, r3, r4, r5, r6, r7, r8]
            · have h1 : (gq == 0) = false := beq_eq_false_iff_ne.2 hg0
              have h2 : (gq != 0) = true := by rw [bne, h1]; rfl
              have hF := HFG.out.trans (if_pos hg0)
              subst hF
              clear hg0
              obtain ⟨r0, r1, r2, r3, r4, r5, r6, r7, r8⟩ := ob_cells' (o := zeroO) (ve := .slice none 0 0) (vp := .slice none 0 0) (HGR.out _ HB9.out)
              obtain ⟨y0, y1, y2, y3, y4, y5, y6, y7, y8⟩ := ob_free' (o := zeroO) (ve := .slice none 0 0) (vp := .slice none 0 0) (HGR.out _ HB9.out)
              go_wp2_with fail
              refine bodyPost_ret (v := .tuple #[.agg (objC zeroO (.slice none 0 0) (.slice none 0 0)).toArray, .int .i64 (gq)]) ?_ rfl ⟨.slice none 0 0, .slice none 0 0, rfl, rdE_nil _, rdS_nil _, ?_⟩
              · simp [results, Tryd.f27, go_sem, objC, zeroO, noB, r0, r1, r2, r3, r4, r5, r6, r7, r8]
              · exact set9 (HW0.out.trans (HB9.out.mono HW0.out.size)) (by have := HW0.out.size; omega) _ _ _ _ _ _ _ _ _
        · have h1 : (er == 0) = false := beq_eq_false_iff_ne.2 her
          have h2 : (er != 0) = true := by rw [bne, h1]; rfl
          have hF := HRAW.out.trans (endF2_bad her)
          subst hF
          clear her
          obtain ⟨r0, r1, r2, r3, r4, r5, r6, r7, r8⟩ := ob_cells' (o := zeroO) (ve := .slice none 0 0) (vp := .slice none 0 0) (HGR.out _ HB9x.out)
          obtain ⟨y0, y1, y2, y3, y4, y5, y6, y7, y8⟩ := ob_free' (o := zeroO) (ve := .slice none 0 0) (vp := .slice none 0 0) (HGR.out _ HB9x.out)
          go_wp2_with fail
          refine bodyPost_ret (v := .tuple #[.agg (objC zeroO (.slice none 0 0) (.slice none 0 0)).toArray, .int .i64 (2)]) ?_ rfl ⟨.slice none 0 0, .slice none 0 0, rfl, rdE_nil _, rdS_nil _, ?_⟩
          · simp [results, Tryd.f27, go_sem, objC, zeroO, noB, r0, r1, r2, r3, r4, r5, r6, r7, r8]
          · exact set9 (HW0.out.trans (HB9x.out.mono HW0.out.size)) (by have := HW0.out.size; omega) _ _ _ _ _ _ _ _ _
      · by_cases k2 : K = 2
        · subst k2
          have HD3' := Lib.hid (show DecSt V W.heap.size g q st1 { zeroO with kind := 2 } (.slice none 0 0) (.slice none 0 0) from HD3.out)
          clear HD3
          have HD3 := Lib.hid HD3'.out
          clear HD3'
          have hV2 : w2.alloc (.cells #[.int .i64 2, .string ⟨#[]⟩, .slice none 0 0, .string ⟨#[]⟩, .slice none 0 0, .string ⟨#[]⟩, .string ⟨#[]⟩, .int .i64 0, .string ⟨#[]⟩] 54) = V := hV'
          clear hV'
          clear c0 c1 c2 c3 c4 c5 c6 c7 c8 z0 z1 z2 z3 z4 z5 z6 z7 z8
          obtain ⟨c0, c1, c2, c3, c4, c5, c6, c7, c8⟩ := ob_cells' HD3.out.ob
          obtain ⟨z0, z1, z2, z3, z4, z5, z6, z7, z8⟩ := ob_free' HD3.out.ob
          obtain ⟨i1, i2, i3, i4, i5, i6, i7, i8⟩ := ob_set_id HD3.out.ob
          have HC4 := Lib.hid (rNumber_any HD3.out.rd (by have := HD3.out.sz; unfold maxLen; omega))
          have hle4 := rNum_le st1
          obtain ⟨⟨cn, st2⟩, hq4⟩ : ∃ q, q = rNum st1 := ⟨_, rfl⟩
          rw [← hq4] at HC4 hle4
          have HQ4 := Lib.hid hq4.symm
          have hsz4 : st2.1.size ≤ 8192 := Nat.le_trans hle4 HD3.out.sz
          clear hq4 hle4
          go_wp2_with fail
          (with_reducible refine HC4.out.mono ?_)
          rintro e w4 hto
          obtain ⟨rfl, hd4, hb4⟩ := HD3.out.read hto hsz4
          have HD4 := Lib.hid hd4
          have HB4 := Lib.hid (HB3.out.trans hb4)
          clear hto hd4 hb4 HC4 hsz4
          clear c0 c1 c2 c3 c4 c5 c6 c7 c8 z0 z1 z2 z3 z4 z5 z6 z7 z8
          obtain ⟨c0, c1, c2, c3, c4, c5, c6, c7, c8⟩ := ob_cells' HD4.out.ob
          obtain ⟨z0, z1, z2, z3, z4, z5, z6, z7, z8⟩ := ob_free' HD4.out.ob
          clear i1 i2 i3 i4 i5 i6 i7 i8
          have hc62 : cn < 4611686018427387904 := by have := rNum_62 st1; rw [HQ4.out] at this; exact this
          have HFT := Lib.hid (HFF.out.trans (decodeF_T HNB.out HQ1'.out HQ4.out))
          have HST := Lib.hid (show st2.1.size ≤ 8192 from HD4.out.sz)
          clear HFF
          go_wp2_with fail
          go_loopw [6] (fun i wr => ∃ (n : Nat) (st : ByteArray × Int) (l : List Ent) (ve : Value), i = .int .i64 (n : Int) ∧ n < 4611686018427387904 ∧ (st.2 = 0 → l.length + st.1.size ≤ 8192) ∧ l.length ≤ 8193 ∧ DecSt wr W.heap.size g q st (⟨2, noB, l, noB, [], noB, noB, 0, noB⟩ : ObjS) ve (.slice none 0 0) ∧ F = restT n st l ∧ Below W.heap.size W wr) (fun i _ => (intOf i).toNat)
          case atStart => exact ⟨cn, st2, [], _, rfl, hc62, fun _ => by have := HST.out; simp; omega, by simp, HD4.out, HFT.out, HB4.out⟩
          case round =>
            clear HFT HST HD4 HB4 HD3 HB3 c0 c1 c2 c3 c4 c5 c6 c7 c8 z0 z1 z2 z3 z4 z5 z6 z7 z8
            obtain ⟨n, st, l, ve, rfl, hn62, hsz, hl, hd, hF, hB⟩ := hrel
            obtain ⟨rr, er⟩ := st
            have HD5 := Lib.hid hd
            have HB5 := Lib.hid hB
            have HFL := Lib.hid hF
            have HSZ := Lib.hid hsz
            clear hd hB hF hsz
            obtain ⟨c0, c1, c2, c3, c4, c5, c6, c7, c8⟩ := ob_cells' HD5.out.ob
            obtain ⟨z0, z1, z2, z3, z4, z5, z6, z7, z8⟩ := ob_free' HD5.out.ob
            have HKR := Lib.hid (show 1 ≤ (⟨2, noB, l, noB, [], noB, noB, 0, noB⟩ : ObjS).kind ∧ (⟨2, noB, l, noB, [], noB, noB, 0, noB⟩ : ObjS).kind ≤ 4 from ⟨(by decide : (1 : Int) ≤ 2), (by decide : (2 : Int) ≤ 4)⟩)
            by_cases hpos : 0 < n
            · have hpi : decide ((0 : Int) < (n : Int)) = true := decide_eq_true (by omega)
              have hpn : decide (0 < n) = true := decide_eq_true hpos
              have HPOS := Lib.hid hpos
              have HCa := Lib.hid (rBad_any HD5.out.rd)
              clear hpos
              go_wp2_with fail
              (with_reducible refine HCa.out.mono ?_)
              rintro e w0 ⟨rfl, rfl⟩
              by_cases he0 : er = 0
              · subst he0
                have HLE := Lib.hid (show l.length + rr.size ≤ 8192 from HSZ.out rfl)
                have HLL := Lib.hid hl
                have HC6 := Lib.hid (rText_any HD5.out.rd (by have := HD5.out.sz; omega))
                have hle6 := rTxt_le (rr, 0)
                obtain ⟨⟨nm, s2⟩, hq6⟩ : ∃ q, q = rTxt (rr, 0) := ⟨_, rfl⟩
                rw [← hq6] at HC6 hle6
                have HQ6 := Lib.hid hq6.symm
                have hsz6 : s2.1.size ≤ 8192 := Nat.le_trans hle6 HD5.out.sz
                clear hq6 hle6
                go_wp2_with fail
                (with_reducible refine HC6.out.mono ?_)
                rintro e w6 hto
                obtain ⟨rfl, hd6, hb6⟩ := HD5.out.read hto hsz6
                have HD6 := Lib.hid hd6
                have HB6 := Lib.hid (HB5.out.trans hb6)
                clear hto hd6 hb6 HC6 hsz6
                clear c0 c1 c2 c3 c4 c5 c6 c7 c8 z0 z1 z2 z3 z4 z5 z6 z7 z8
                obtain ⟨c0, c1, c2, c3, c4, c5, c6, c7, c8⟩ := ob_cells' HD6.out.ob
                obtain ⟨z0, z1, z2, z3, z4, z5, z6, z7, z8⟩ := ob_free' HD6.out.ob
                obtain ⟨wx, hwx⟩ : ∃ wx, w6.alloc (.cells #[.string nm, .bool false, .string ⟨#[]⟩] 98) = wx := ⟨_, rfl⟩
                obtain ⟨x, hxd⟩ : ∃ x, w6.heap.size = x := ⟨_, rfl⟩
                have hbx : Below w6.heap.size w6 wx := by rw [← hwx]; exact (Below.refl _ _).alloc (Nat.le_refl _) _
                have HXE := Lib.hid (show wx.heap[x]? = some (.cells #[.string nm, .bool false, .string ⟨#[]⟩] 98 (0, 0)) by rw [← hwx, ← hxd]; exact heap_alloc_new _ _)
                have HD6x := Lib.hid (HD6.out.below hbx)
                have HB6x := Lib.hid (HB6.out.trans (hbx.mono HD6.out.le.2.2))
                have HGX := Lib.hid (show g ≠ x ∧ W.heap.size ≤ x ∧ q ≠ x ∧ (∀ k, ve.ownBlock = some k → k ≠ x) from ⟨by have := lt_of_block HD6.out.rd.blk; omega, by have := HD6.out.le; omega, by have := lt_of_block HD6.out.ob; omega, fun k hk => by have := HD6.out.es.lt k hk; omega⟩)
                clear hbx
                have j1 := set_id HXE.out (i := 1) (v := .bool false) rfl
                have j2 := set_id HXE.out (i := 2) (v := .string ⟨#[]⟩) rfl
                obtain ⟨x0, x1, x2, e0, e1, e2⟩ := en_cells HXE.out
                have HC7 := Lib.hid (rNumber_any HD6x.out.rd (by have := HD6x.out.sz; unfold maxLen; omega))
                have hle7 := rNum_le s2
                obtain ⟨⟨d, s3⟩, hq7⟩ : ∃ q, q = rNum s2 := ⟨_, rfl⟩
                rw [← hq7] at HC7 hle7
                have HQ7 := Lib.hid hq7.symm
                have hsz7 : s3.1.size ≤ 8192 := Nat.le_trans hle7 HD6x.out.sz
                clear hq7 hle7
                go_wp2_with fail
                (with_reducible refine HC7.out.mono ?_)
                rintro e w7 hto
                have HXE := Lib.hid (blk_upd HXE.out hto.2.2 (fun e => HGX.out.1 e.symm))
                obtain ⟨rfl, hd7, hb7⟩ := HD6x.out.read hto hsz7
                have HD7 := Lib.hid hd7
                have HB7 := Lib.hid (HB6x.out.trans hb7)
                clear hto hd7 hb7 HC7 hsz7
                clear hwx hxd j1 j2
                clear x0 x1 x2 e0 e1 e2
                obtain ⟨x0, x1, x2, e0, e1, e2⟩ := en_cells HXE.out
                clear c0 c1 c2 c3 c4 c5 c6 c7 c8 z0 z1 z2 z3 z4 z5 z6 z7 z8
                obtain ⟨c0, c1, c2, c3, c4, c5, c6, c7, c8⟩ := ob_cells' HD7.out.ob
                obtain ⟨z0, z1, z2, z3, z4, z5, z6, z7, z8⟩ := ob_free' HD7.out.ob
                have HC8 := Lib.hid (rBytes_any HD7.out.rd (by have := HD7.out.sz; omega) 32)
                have hle8 := rByt_le s3 32
                obtain ⟨⟨id, s4⟩, hq8⟩ : ∃ q, q = rByt s3 32 := ⟨_, rfl⟩
                rw [← hq8] at HC8 hle8
                have HQ8 := Lib.hid hq8.symm
                have hsz8 : s4.1.size ≤ 8192 := Nat.le_trans hle8 HD7.out.sz
                clear hq8 hle8
                go_wp2_with fail
                (with_reducible refine HC8.out.mono ?_)
                rintro e w8 hto
                have HXE := Lib.hid (blk_upd HXE.out hto.2.2 (fun e => HGX.out.1 e.symm))
                obtain ⟨rfl, hd8, hb8⟩ := HD7.out.read hto hsz8
                have HD8 := Lib.hid hd8
                have HB8 := Lib.hid (HB7.out.trans hb8)
                clear hto hd8 hb8 HC8 hsz8
                clear x0 x1 x2 e0 e1 e2
                obtain ⟨x0, x1, x2, e0, e1, e2⟩ := en_cells HXE.out
                clear c0 c1 c2 c3 c4 c5 c6 c7 c8 z0 z1 z2 z3 z4 z5 z6 z7 z8
                obtain ⟨c0, c1, c2, c3, c4, c5, c6, c7, c8⟩ := ob_cells' HD8.out.ob
                obtain ⟨z0, z1, z2, z3, z4, z5, z6, z7, z8⟩ := ob_free' HD8.out.ob
                have HS4 := Lib.hid (show s4.2 = 0 → (l ++ [(⟨nm, decide (d = 1), id⟩ : Ent)]).length + s4.1.size ≤ 8192 from fun h0 => by have a1 := rByt_less HQ8.out h0; have a2 := rNum_le s2; rw [HQ7.out] at a2; have a3 := rTxt_le (rr, 0); rw [HQ6.out] at a3; have a4 := HLE.out; have a5 : s2.1.size ≤ rr.size := a3; have a6 : s3.1.size ≤ s2.1.size := a2; rw [List.length_append]; show l.length + 1 + _ ≤ _; omega)
                obtain ⟨b, hb⟩ : ∃ b, decide (d = 1) = b := ⟨_, rfl⟩
                have hb2 : ((d : Int) == 1) = b := by rw [← hb]; by_cases h : d = 1 <;> simp [h] <;> omega
                have HBD := Lib.hid hb
                have HX9 := Lib.hid (show (w8.setCell ⟨x, 2, none⟩ (.string id)).heap[x]? = some (.cells #[.string nm, .bool false, .string id] 98 (0, 0)) from cells_setCell HXE.out 2 _)
                have HX10 := Lib.hid (show ((w8.setCell ⟨x, 2, none⟩ (.string id)).setCell ⟨x, 1, none⟩ (.bool b)).heap[x]? = some (.cells #[.string nm, .bool b, .string id] 98 (0, 0)) from cells_setCell HX9.out 1 _)
                have HQ9 := Lib.hid (HD8.out.other ((Upd.refl (fun k => k = x) w8).setCell (a := ⟨x, 2, none⟩) (.inl rfl) (.string id)) HGX.out.1 HGX.out.2.2.1 HGX.out.2.2.2 (fun k hk => by cases hk) HGX.out.2.1)
                have HD9x := Lib.hid HQ9.out.1
                have HB9x := Lib.hid (HB8.out.trans HQ9.out.2)
                obtain ⟨xa0, xa1, xa2, ea0, ea1, ea2⟩ := en_cells HX9.out
                by_cases hd1 : 1 < d
                · have hF := HFL.out.trans (restT_wide HPOS.out HQ6.out HQ7.out hd1)
                  subst hF
                  have g1 : decide ((1 : Int) < (d : Int)) = true := decide_eq_true (by omega)
                  have g2 : decide (1 < d) = true := decide_eq_true hd1
                  clear hd1 hb hb2
                  obtain ⟨r0, r1, r2, r3, r4, r5, r6, r7, r8⟩ := ob_cells' (o := zeroO) (ve := .slice none 0 0) (vp := .slice none 0 0) (HGR.out _ HB9x.out)
                  obtain ⟨y0, y1, y2, y3, y4, y5, y6, y7, y8⟩ := ob_free' (o := zeroO) (ve := .slice none 0 0) (vp := .slice none 0 0) (HGR.out _ HB9x.out)
                  go_wp2_with fail
                  refine bodyPost_ret (v := .tuple #[.agg (objC zeroO (.slice none 0 0) (.slice none 0 0)).toArray, .int .i64 (2)]) ?_ rfl ⟨.slice none 0 0, .slice none 0 0, rfl, rdE_nil _, rdS_nil _, ?_⟩
                  · simp [results, Tryd.f27, go_sem, objC, zeroO, noB, r0, r1, r2, r3, r4, r5, r6, r7, r8]
                  · exact set9 (HW0.out.trans (HB9x.out.mono HW0.out.size)) (by have := HW0.out.size; omega) _ _ _ _ _ _ _ _ _
                · have HF2 := Lib.hid (HFL.out.trans (restT_step HPOS.out HQ6.out HQ7.out hd1 HQ8.out))
                  have g1 : decide ((1 : Int) < (d : Int)) = false := decide_eq_false (by omega)
                  have g2 : decide (1 < d) = false := decide_eq_false hd1
                  rw [hb] at HF2 HS4
                  have HQ10 := Lib.hid (HD9x.out.other ((Upd.refl (fun k => k = x) _).setCell (a := ⟨x, 1, none⟩) (.inl rfl) (.bool b)) HGX.out.1 HGX.out.2.2.1 HGX.out.2.2.2 (fun k hk => by cases hk) HGX.out.2.1)
                  have HD10 := Lib.hid HQ10.out.1
                  have HB10 := Lib.hid (HB9x.out.trans HQ10.out.2)
                  obtain ⟨xb0, xb1, xb2, eb0, eb1, eb2⟩ := en_cells HX10.out
                  have HSZC := Lib.hid (show ((w8.setCell ⟨x, 2, none⟩ (.string id)).setCell ⟨x, 1, none⟩ (.bool b)).heap.size = w8.heap.size by simp [World.setCell])
                  clear hd1 HQ9 HQ10
                  clear c0 c1 c2 c3 c4 c5 c6 c7 c8 z0 z1 z2 z3 z4 z5 z6 z7 z8
                  obtain ⟨c0, c1, c2, c3, c4, c5, c6, c7, c8⟩ := ob_cells' HD10.out.ob
                  obtain ⟨z0, z1, z2, z3, z4, z5, z6, z7, z8⟩ := ob_free' HD10.out.ob
                  go_wp2_with (first | (at_builtin; refine wpList_append1u rfl _ _ 52 rfl info_entry Tryd.underlying52 rfl (by decide) (by decide) HD10.out.es HB10.out.size rfl (by simp [Value.oneCell']) (by have := HLL.out; show (l.length + 1) * 40 ≤ _; omega) rfl (by rw [HSZC.out]; rfl) ?_; intro v' w' hown' hupd'; have HOW := Lib.hid (show w'.ownsRow W.heap.size 98 3 v' (l ++ [(⟨nm, b, id⟩ : Ent)]).length (evs (l ++ [(⟨nm, b, id⟩ : Ent)])) by rw [evs_append, List.length_append]; exact hown'); have HUP := Lib.hid hupd'; obtain ⟨ao6, cp6, rfl⟩ := owns_slice HOW.out; clear hown' hupd' c0 c1 c2 c3 c4 c5 c6 c7 c8 z0 z1 z2 z3 z4 z5 z6 z7 z8; obtain ⟨c0, c1, c2, c3, c4, c5, c6, c7, c8⟩ := ob_cells' (blk_upd HD10.out.ob HUP.out HD10.out.far.2.2.1); obtain ⟨z0, z1, z2, z3, z4, z5, z6, z7, z8⟩ := ob_free' (blk_upd HD10.out.ob HUP.out HD10.out.far.2.2.1)))
                  have hap := HD10.out.appE (o' := ⟨2, noB, (l ++ [(⟨nm, b, id⟩ : Ent)]), noB, [], noB, noB, 0, noB⟩) HOW.out HUP.out rfl
                  have hp := HPOS.out
                  simp only [List.length_append, List.length_cons, List.length_nil, Nat.zero_add] at hap
                  exact ⟨⟨n - 1, s4, (l ++ [(⟨nm, b, id⟩ : Ent)]), _, by first | rfl | go_num, by omega, HS4.out, by have := HLE.out; simp; omega, hap.1, HF2.out, HB10.out.trans hap.2⟩, by have := HPOS.out; simp [intOf]; omega⟩
              · have h1 : (er == 0) = false := beq_eq_false_iff_ne.2 he0
                have h2 : (er != 0) = true := by rw [bne, h1]; rfl
                have hF := HFL.out.trans ((restT_end (.inr he0)).trans (endF2_bad he0))
                subst hF
                clear he0
                have HCb := Lib.hid (rBad_any HD5.out.rd)
                go_wp2_with fail
                (with_reducible refine HCb.out.mono ?_)
                rintro e w0 ⟨rfl, rfl⟩
                obtain ⟨r0, r1, r2, r3, r4, r5, r6, r7, r8⟩ := ob_cells' (o := zeroO) (ve := .slice none 0 0) (vp := .slice none 0 0) (HGR.out _ HB5.out)
                obtain ⟨y0, y1, y2, y3, y4, y5, y6, y7, y8⟩ := ob_free' (o := zeroO) (ve := .slice none 0 0) (vp := .slice none 0 0) (HGR.out _ HB5.out)
                go_wp2_with fail
                refine bodyPost_ret (v := .tuple #[.agg (objC zeroO (.slice none 0 0) (.slice none 0 0)).toArray, .int .i64 (2)]) ?_ rfl ⟨.slice none 0 0, .slice none 0 0, rfl, rdE_nil _, rdS_nil _, ?_⟩
                · simp [results, Tryd.f27, go_sem, objC, zeroO, noB, r0, r1, r2, r3, r4, r5, r6, r7, r8]
                · exact set9 (HW0.out.trans (HB5.out.mono HW0.out.size)) (by have := HW0.out.size; omega) _ _ _ _ _ _ _ _ _
            · have hpi : decide ((0 : Int) < (n : Int)) = false := decide_eq_false (by omega)
              have hpn : decide (0 < n) = false := decide_eq_false hpos
              have HRAW := Lib.hid (HFL.out.trans (restT_end (.inl (by omega))))
              clear hpos
              have HCb := Lib.hid (rBad_any HD5.out.rd)
              go_wp2_with fail
              (with_reducible refine HCb.out.mono ?_)
              rintro e w0 ⟨rfl, rfl⟩
              clear c0 c1 c2 c3 c4 c5 c6 c7 c8 z0 z1 z2 z3 z4 z5 z6 z7 z8
              obtain ⟨c0, c1, c2, c3, c4, c5, c6, c7, c8⟩ := ob_cells' HD5.out.ob
              obtain ⟨z0, z1, z2, z3, z4, z5, z6, z7, z8⟩ := ob_free' HD5.out.ob
              by_cases her : er = 0
              · subst her
                have HCl := Lib.hid (rLeft_any HD5.out.rd)
                go_wp2_with fail
                (with_reducible refine HCl.out.mono ?_)
                rintro e w0 ⟨rfl, rfl⟩
                by_cases hleft : 0 < rr.size
                · have hF := HRAW.out.trans (endF2_left HKR.out hleft)
                  subst hF
                  have h1 : decide ((0 : Int) < (rr.size : Int)) = true := decide_eq_true (by omega)
                  have h2 : decide (0 < rr.size) = true := decide_eq_true hleft
                  clear hleft
                  obtain ⟨r0, r1, r2, r3, r4, r5, r6, r7, r8⟩ := ob_cells' (o := zeroO) (ve := .slice none 0 0) (vp := .slice none 0 0) (HGR.out _ HB5.out)
                  obtain ⟨y0, y1, y2, y3, y4, y5, y6, y7, y8⟩ := ob_free' (o := zeroO) (ve := .slice none 0 0) (vp := .slice none 0 0) (HGR.out _ HB5.out)
                  go_wp2_with fail
                  refine bodyPost_ret (v := .tuple #[.agg (objC zeroO (.slice none 0 0) (.slice none 0 0)).toArray, .int .i64 (2)]) ?_ rfl ⟨.slice none 0 0, .slice none 0 0, rfl, rdE_nil _, rdS_nil _, ?_⟩
                  · simp [results, Tryd.f27, go_sem, objC, zeroO, noB, r0, r1, r2, r3, r4, r5, r6, r7, r8]
                  · exact set9 (HW0.out.trans (HB5.out.mono HW0.out.size)) (by have := HW0.out.size; omega) _ _ _ _ _ _ _ _ _
                · have h1 : decide ((0 : Int) < (rr.size : Int)) = false := decide_eq_false (by omega)
                  have h2 : decide (0 < rr.size) = false := decide_eq_false hleft
                  have HFG := Lib.hid (HRAW.out.trans (endF2_good (.inr (by omega))))
                  clear hleft
                  have HCg := Lib.hid (ogood_any _ _ _ _ (rdRow_of_owns HD5.out.es) (rdRow_of_owns HD5.out.ps))
                  obtain ⟨gq, hgq⟩ : ∃ e : Int, e = goodF (⟨2, noB, l, noB, [], noB, noB, 0, noB⟩ : ObjS) := ⟨_, rfl⟩
                  have gob := HD5.out.ob
                  have HGQ := Lib.hid hgq
                  rw [← hgq] at HCg HFG
                  clear hgq
                  go_wp2_with (first | (refine wpList_load_blk (by rfl) 54 (.tmp 5) rfl q rfl (.agg (objC (⟨2, noB, l, noB, [], noB, noB, 0, noB⟩ : ObjS) _ _).toArray) rfl gob Tryd.underlying54 rfl (by kernel_rfl) ?_))
                  (with_reducible refine HCg.out.mono ?_)
                  rintro e w9 ⟨rfl, hb9⟩
                  have HB9 := Lib.hid (HB5.out.trans (hb9.mono HD5.out.le.2.2))
                  have HD9 := Lib.hid (HD5.out.below hb9)
                  clear hb9 gob HCg
                  clear c0 c1 c2 c3 c4 c5 c6 c7 c8 z0 z1 z2 z3 z4 z5 z6 z7 z8
                  obtain ⟨c0, c1, c2, c3, c4, c5, c6, c7, c8⟩ := ob_cells' HD9.out.ob
                  obtain ⟨z0, z1, z2, z3, z4, z5, z6, z7, z8⟩ := ob_free' HD9.out.ob
                  by_cases hg0 : gq = 0
                  · have hF := HFG.out.trans (if_neg (by simpa using hg0))
                    subst hF hg0
                    have gob9 := HD9.out.ob
                    have gR9 := HGR.out _ HB9.out
                    have hone9 := HD9.out.one
                    go_wp2_with (first | (refine wpList_load_blk (by rfl) 54 (.tmp 5) rfl q rfl (.agg (objC (⟨2, noB, l, noB, [], noB, noB, 0, noB⟩ : ObjS) _ _).toArray) rfl gob9 Tryd.underlying54 rfl (by kernel_rfl) ?_) | (refine wpList_store_blk (by rfl) 54 (.tmp 2) (.tmp 128) rfl w.heap.size (objC (⟨2, noB, l, noB, [], noB, noB, 0, noB⟩ : ObjS) _ _).toArray rfl rfl gR9 info_ob rfl hone9 ?_; intro wz hRz hUz))
                    obtain ⟨r0, r1, r2, r3, r4, r5, r6, r7, r8⟩ := ob_cells' hRz
                    have hlt : w.heap.size < W.heap.size := lt_of_block (HGR.out _ (Below.refl _ _))
                    refine bodyPost_ret (v := .tuple #[.agg (objC (⟨2, noB, l, noB, [], noB, noB, 0, noB⟩ : ObjS) ve (.slice none 0 0)).toArray, .int .i64 0]) ?_ rfl ⟨_, _, rfl, rdRow_of_owns (owns_upd HD9.out.es hUz (fun k hk e => by have := owns_ge HD9.out.es hk; omega)), rdRow_of_owns (owns_upd HD9.out.ps hUz (fun k hk e => by have := owns_ge HD9.out.ps hk; omega)), below_upd (HW0.out.trans (HB9.out.mono HW0.out.size)) hUz (Nat.le_refl _) (by have := HW0.out.size; have := HB9.out.size; omega)⟩
                    simp [results, Tryd.f27, go_sem, objC, r0, r1, r2, r3, r4, r5, r6, r7, r8]
                  · have h1 : (gq == 0) = false := beq_eq_false_iff_ne.2 hg0
                    have h2 : (gq != 0) = true := by rw [bne, h1]; rfl
                    have hF := HFG.out.trans (if_pos hg0)
                    subst hF
                    clear hg0
                    obtain ⟨r0, r1, r2, r3, r4, r5, r6, r7, r8⟩ := ob_cells' (o := zeroO) (ve := .slice none 0 0) (vp := .slice none 0 0) (HGR.out _ HB9.out)
                    obtain ⟨y0, y1, y2, y3, y4, y5, y6, y7, y8⟩ := ob_free' (o := zeroO) (ve := .slice none 0 0) (vp := .slice none 0 0) (HGR.out _ HB9.out)
                    go_wp2_with fail
                    refine bodyPost_ret (v := .tuple #[.agg (objC zeroO (.slice none 0 0) (.slice none 0 0)).toArray, .int .i64 (gq)]) ?_ rfl ⟨.slice none 0 0, .slice none 0 0, rfl, rdE_nil _, rdS_nil _, ?_⟩
                    · simp [results, Tryd.f27, go_sem, objC, zeroO, noB, r0, r1, r2, r3, r4, r5, r6, r7, r8]
                    · exact set9 (HW0.out.trans (HB9.out.mono HW0.out.size)) (by have := HW0.out.size; omega) _ _ _ _ _ _ _ _ _
              · have h1 : (er == 0) = false := beq_eq_false_iff_ne.2 her
                have h2 : (er != 0) = true := by rw [bne, h1]; rfl
                have hF := HRAW.out.trans (endF2_bad her)
                subst hF
                clear her
                obtain ⟨r0, r1, r2, r3, r4, r5, r6, r7, r8⟩ := ob_cells' (o := zeroO) (ve := .slice none 0 0) (vp := .slice none 0 0) (HGR.out _ HB5.out)
                obtain ⟨y0, y1, y2, y3, y4, y5, y6, y7, y8⟩ := ob_free' (o := zeroO) (ve := .slice none 0 0) (vp := .slice none 0 0) (HGR.out _ HB5.out)
                go_wp2_with fail
                refine bodyPost_ret (v := .tuple #[.agg (objC zeroO (.slice none 0 0) (.slice none 0 0)).toArray, .int .i64 (2)]) ?_ rfl ⟨.slice none 0 0, .slice none 0 0, rfl, rdE_nil _, rdS_nil _, ?_⟩
                · simp [results, Tryd.f27, go_sem, objC, zeroO, noB, r0, r1, r2, r3, r4, r5, r6, r7, r8]
                · exact set9 (HW0.out.trans (HB5.out.mono HW0.out.size)) (by have := HW0.out.size; omega) _ _ _ _ _ _ _ _ _
        · by_cases k3 : K = 3
          · subst k3
            have HD3' := Lib.hid (show DecSt V W.heap.size g q st1 { zeroO with kind := 3 } (.slice none 0 0) (.slice none 0 0) from HD3.out)
            clear HD3
            have HD3 := Lib.hid HD3'.out
            clear HD3'
            have hV2 : w2.alloc (.cells #[.int .i64 3, .string ⟨#[]⟩, .slice none 0 0, .string ⟨#[]⟩, .slice none 0 0, .string ⟨#[]⟩, .string ⟨#[]⟩, .int .i64 0, .string ⟨#[]⟩] 54) = V := hV'
            clear hV'
            clear c0 c1 c2 c3 c4 c5 c6 c7 c8 z0 z1 z2 z3 z4 z5 z6 z7 z8
            obtain ⟨c0, c1, c2, c3, c4, c5, c6, c7, c8⟩ := ob_cells' HD3.out.ob
            obtain ⟨z0, z1, z2, z3, z4, z5, z6, z7, z8⟩ := ob_free' HD3.out.ob
            obtain ⟨i1, i2, i3, i4, i5, i6, i7, i8⟩ := ob_set_id HD3.out.ob
            have HC4 := Lib.hid (rBytes_any HD3.out.rd (by have := HD3.out.sz; omega) 32)
            have hle4 := rByt_le st1 32
            obtain ⟨⟨tr, st2⟩, hq4⟩ : ∃ q, q = rByt st1 32 := ⟨_, rfl⟩
            rw [← hq4] at HC4 hle4
            have HQ4 := Lib.hid hq4.symm
            have hsz4 : st2.1.size ≤ 8192 := Nat.le_trans hle4 HD3.out.sz
            clear hq4 hle4
            go_wp2_with fail
            (with_reducible refine HC4.out.mono ?_)
            rintro e w4 hto
            obtain ⟨rfl, hd4, hb4⟩ := HD3.out.read hto hsz4
            have HD4 := Lib.hid hd4
            have HB4 := Lib.hid (HB3.out.trans hb4)
            clear hto hd4 hb4 HC4 hsz4
            clear c0 c1 c2 c3 c4 c5 c6 c7 c8 z0 z1 z2 z3 z4 z5 z6 z7 z8
            obtain ⟨c0, c1, c2, c3, c4, c5, c6, c7, c8⟩ := ob_cells' HD4.out.ob
            obtain ⟨z0, z1, z2, z3, z4, z5, z6, z7, z8⟩ := ob_free' HD4.out.ob
            obtain ⟨hd5a, hb5a⟩ := HD4.out.set 3 (.string tr) (o' := (⟨3, noB, [], tr, [], noB, noB, 0, noB⟩ : ObjS)) rfl rfl rfl
            have HD5a := Lib.hid hd5a
            have HB5a := Lib.hid (HB4.out.trans hb5a)
            clear hd5a hb5a
            clear i1 i2 i3 i4 i5 i6 i7 i8
            have HC6a := Lib.hid (rNumber_any HD5a.out.rd (by have := HD5a.out.sz; unfold maxLen; omega))
            have hle6a := rNum_le st2
            obtain ⟨⟨cn, st3⟩, hq6a⟩ : ∃ q, q = rNum st2 := ⟨_, rfl⟩
            rw [← hq6a] at HC6a hle6a
            have HQ6a := Lib.hid hq6a.symm
            have hsz6a : st3.1.size ≤ 8192 := Nat.le_trans hle6a HD5a.out.sz
            clear hq6a hle6a
            go_wp2_with fail
            (with_reducible refine HC6a.out.mono ?_)
            rintro e w6a hto
            obtain ⟨rfl, hd6a, hb6a⟩ := HD5a.out.read hto hsz6a
            have HD6a := Lib.hid hd6a
            have HB6a := Lib.hid (HB5a.out.trans hb6a)
            clear hto hd6a hb6a HC6a hsz6a
            clear c0 c1 c2 c3 c4 c5 c6 c7 c8 z0 z1 z2 z3 z4 z5 z6 z7 z8
            obtain ⟨c0, c1, c2, c3, c4, c5, c6, c7, c8⟩ := ob_cells' HD6a.out.ob
            obtain ⟨z0, z1, z2, z3, z4, z5, z6, z7, z8⟩ := ob_free' HD6a.out.ob
            have hc62 : cn < 4611686018427387904 := by have := rNum_62 st2; rw [HQ6a.out] at this; exact this
            have HFT := Lib.hid (HFF.out.trans (decodeF_C HNB.out HQ1'.out HQ4.out HQ6a.out))
            have HST := Lib.hid (show st3.1.size ≤ 8192 from HD6a.out.sz)
            clear HFF
            go_wp2_with fail
            go_loopw [9] (fun i wr => ∃ (n : Nat) (st : ByteArray × Int) (l : List ByteArray) (vp : Value), i = .int .i64 (n : Int) ∧ n < 4611686018427387904 ∧ (st.2 = 0 → l.length + st.1.size ≤ 8192) ∧ l.length ≤ 8193 ∧ DecSt wr W.heap.size g q st (⟨3, noB, [], tr, l, noB, noB, 0, noB⟩ : ObjS) (.slice none 0 0) vp ∧ F = restC tr n st l ∧ Below W.heap.size W wr) (fun i _ => (intOf i).toNat)
            case atStart => exact ⟨cn, st3, [], _, rfl, hc62, fun _ => by have := HST.out; simp; omega, by simp, HD6a.out, HFT.out, HB6a.out⟩
            case round =>
              clear HFT HST HD6a HB6a HD5a HB5a HD4 HB4 HD3 HB3 c0 c1 c2 c3 c4 c5 c6 c7 c8 z0 z1 z2 z3 z4 z5 z6 z7 z8
              obtain ⟨n, st, l, vp, rfl, hn62, hsz, hl, hd, hF, hB⟩ := hrel
              obtain ⟨ra, ea⟩ := st
              have HD5 := Lib.hid hd
              have HB5 := Lib.hid hB
              have HFL := Lib.hid hF
              have HSZ := Lib.hid hsz
              clear hd hB hF hsz
              obtain ⟨c0, c1, c2, c3, c4, c5, c6, c7, c8⟩ := ob_cells' HD5.out.ob
              obtain ⟨z0, z1, z2, z3, z4, z5, z6, z7, z8⟩ := ob_free' HD5.out.ob
              by_cases hpos : 0 < n
              · have hpi : decide ((0 : Int) < (n : Int)) = true := decide_eq_true (by omega)
                have hpn : decide (0 < n) = true := decide_eq_true hpos
                have HPOS := Lib.hid hpos
                have HCa := Lib.hid (rBad_any HD5.out.rd)
                clear hpos
                go_wp2_with fail
                (with_reducible refine HCa.out.mono ?_)
                rintro e w0 ⟨rfl, rfl⟩
                by_cases he0 : ea = 0
                · subst he0
                  have HLE := Lib.hid (show l.length + ra.size ≤ 8192 from HSZ.out rfl)
                  have HLL := Lib.hid hl
                  have HD5d := Lib.hid HD5.out.drew
                  have HB5d := Lib.hid HB5.out.drew
                  have HC6 := Lib.hid (rBytes_any HD5d.out.rd (by have := HD5d.out.sz; omega) 32)
                  have hle6 := rByt_le (ra, 0) 32
                  obtain ⟨⟨id, s2⟩, hq6⟩ : ∃ q, q = rByt (ra, 0) 32 := ⟨_, rfl⟩
                  rw [← hq6] at HC6 hle6
                  have HQ6 := Lib.hid hq6.symm
                  have hsz6 : s2.1.size ≤ 8192 := Nat.le_trans hle6 HD5.out.sz
                  have HS4 := Lib.hid (show s2.2 = 0 → (l ++ [id]).length + s2.1.size ≤ 8192 from fun h0 => by have a1 := rByt_less HQ6.out h0; have a4 := HLE.out; have a5 : s2.1.size < ra.size := a1; rw [List.length_append]; show l.length + 1 + _ ≤ _; omega)
                  clear hq6 hle6
                  go_wp2_with fail
                  refine Lone.wp_region_order [(0, false), (1, false), (2, false), (3, true), (4, true), (5, true), (6, false), (7, true)] (fun w' => w'.cell? ⟨q, 4, none⟩ = some vp) (by kernel_rfl) (by kernel_rfl) rfl (by kernel_rfl) (by intro _ _ d _ _ h; cases d <;> exact h) (c4) ?_; simp only [List.map_cons, List.map_nil, List.getElem?_toArray, List.getElem?_cons_zero, List.getElem?_cons_succ, Option.getD_some]
                  repeat (first | (refine Lone.ro_q (by rfl) (v := ?_) ?_ ?_; rotate_left; (focus (intro w' hSw; (try dsimp only at hSw); go_simp; try with_reducible rfl)); simp only [Act.put, List.setIfInBounds_toArray, List.set_cons_zero, List.set_cons_succ]) | (refine Lone.ro_skip (by rfl) ?_; simp only [Act.put, List.setIfInBounds_toArray, List.set_cons_zero, List.set_cons_succ]))
                  (refine Lone.ro_loud (by rfl) (fun K hK => ?_); go_simp)
                  (with_reducible refine HC6.out.mono ?_)
                  rintro e w6 hto
                  obtain ⟨rfl, hd6, hb6⟩ := HD5d.out.read hto hsz6
                  have HD6 := Lib.hid hd6
                  have HB6 := Lib.hid (HB5d.out.trans hb6)
                  clear hto hd6 hb6 HC6 hsz6
                  clear c0 c1 c2 c3 c4 c5 c6 c7 c8 z0 z1 z2 z3 z4 z5 z6 z7 z8
                  obtain ⟨c0, c1, c2, c3, c4, c5, c6, c7, c8⟩ := ob_cells' HD6.out.ob
                  obtain ⟨z0, z1, z2, z3, z4, z5, z6, z7, z8⟩ := ob_free' HD6.out.ob
                  (refine hK.out _ _ (fun w' => w'.cell? ⟨q, 4, none⟩ = some vp) (.inl fun _ h => h) (c4) ?_; clear hK K; try simp only [Act.put, List.setIfInBounds_toArray, List.set_cons_zero, List.set_cons_succ])
                  repeat (first | (refine Lone.ro_q (by rfl) (v := ?_) ?_ ?_; rotate_left; (focus (intro w' hSw; (try dsimp only at hSw); go_simp; try with_reducible rfl)); simp only [Act.put, List.setIfInBounds_toArray, List.set_cons_zero, List.set_cons_succ]) | (refine Lone.ro_skip (by rfl) ?_; simp only [Act.put, List.setIfInBounds_toArray, List.set_cons_zero, List.set_cons_succ]))
                  (refine Lone.ro_loud (by rfl) (fun K hK => ?_); go_simp)
                  have HD7 := Lib.hid (HD6.out.below (w' := w6.alloc (.cells #[.string id] 9)) ((Below.refl _ _).alloc (Nat.le_refl _) _))
                  (refine hK.out _ _ (fun w' => w'.cell? ⟨q, 4, none⟩ = some vp) (.inl fun _ h => h) ((ob_cells' HD7.out.ob).2.2.2.2.1) ?_; clear hK K; try simp only [Act.put, List.setIfInBounds_toArray, List.set_cons_zero, List.set_cons_succ])
                  repeat (first | (refine Lone.ro_q (by rfl) (v := ?_) ?_ ?_; rotate_left; (focus (intro w' hSw; (try dsimp only at hSw); go_simp; try with_reducible rfl)); simp only [Act.put, List.setIfInBounds_toArray, List.set_cons_zero, List.set_cons_succ]) | (refine Lone.ro_skip (by rfl) ?_; simp only [Act.put, List.setIfInBounds_toArray, List.set_cons_zero, List.set_cons_succ]))
                  refine Lone.ro_loud (by rfl) (fun K hK => ?_)
                  refine wp_append1u (.tmp 77) (.tmp 80) 22 rfl info_string Tryd.underlying22 rfl (by decide) HD6.out.ps HB6.out.size rfl (by have := HLL.out; show (l.length + 1) * 16 ≤ _; omega) rfl rfl ?_
                  intro v' w' hown' hupd'
                  have HOW := Lib.hid (show w'.ownsRow W.heap.size 9 1 v' (l ++ [id]).length (svs (l ++ [id])) by rw [svs_append, List.length_append]; exact hown')
                  have HUP := Lib.hid hupd'
                  obtain ⟨ao6, cp6, rfl⟩ := owns_slice HOW.out
                  clear c0 c1 c2 c3 c4 c5 c6 c7 c8 z0 z1 z2 z3 z4 z5 z6 z7 z8
                  obtain ⟨c0, c1, c2, c3, c4, c5, c6, c7, c8⟩ := ob_cells' (blk_upd HD6.out.ob HUP.out HD6.out.far.2.2.2.2.1)
                  obtain ⟨z0, z1, z2, z3, z4, z5, z6, z7, z8⟩ := ob_free' (blk_upd HD6.out.ob HUP.out HD6.out.far.2.2.2.2.1)
                  clear hown' hupd'
                  (refine hK.out _ _ (fun w' => w'.cell? ⟨q, 4, none⟩ = some vp) (.inl fun _ h => h) (c4) ?_; clear hK K; try simp only [Act.put, List.setIfInBounds_toArray, List.set_cons_zero, List.set_cons_succ])
                  repeat (first | (refine Lone.ro_q (by rfl) (v := ?_) ?_ ?_; rotate_left; (focus (intro w' hSw; (try dsimp only at hSw); go_simp; try with_reducible rfl)); simp only [Act.put, List.setIfInBounds_toArray, List.set_cons_zero, List.set_cons_succ]) | (refine Lone.ro_skip (by rfl) ?_; simp only [Act.put, List.setIfInBounds_toArray, List.set_cons_zero, List.set_cons_succ]))
                  (refine Lone.ro_loud (by rfl) (fun K hK => ?_); go_simp)
                  (refine hK.out _ _ (fun _ => True) (.inr (by kernel_rfl)) (trivial) ?_; clear hK K; try simp only [Act.put, List.setIfInBounds_toArray, List.set_cons_zero, List.set_cons_succ])
                  (refine Lone.ro_nil ?_; go_wp2_with fail)
                  have HF2 := HFL.out.trans (restC_step HPOS.out HQ6.out)
                  have hap := HD6.out.appP (o' := ⟨3, noB, [], tr, (l ++ [id]), noB, noB, 0, noB⟩) HOW.out HUP.out rfl
                  simp only [List.length_append, List.length_cons, List.length_nil, Nat.zero_add] at hap
                  have hp := HPOS.out
                  exact ⟨⟨n - 1, s2, l ++ [id], _, by first | rfl | go_num, by omega, HS4.out, by have := HLE.out; simp; omega, hap.1, HF2, HB6.out.trans hap.2⟩, by have := HPOS.out; simp [intOf]; omega⟩
                · have h1 : (ea == 0) = false := beq_eq_false_iff_ne.2 he0
                  have HNE := Lib.hid he0
                  clear he0
                  have HC6 := Lib.hid (rText_any HD5.out.rd (by have := HD5.out.sz; omega))
                  have hle6 := rTxt_le (ra, ea)
                  obtain ⟨⟨tw, s2⟩, hq6⟩ : ∃ q, q = rTxt (ra, ea) := ⟨_, rfl⟩
                  rw [← hq6] at HC6 hle6
                  have HQ6 := Lib.hid hq6.symm
                  have hsz6 : s2.1.size ≤ 8192 := Nat.le_trans hle6 HD5.out.sz
                  clear hq6 hle6
                  go_wp2_with fail
                  (with_reducible refine HC6.out.mono ?_)
                  rintro e w6 hto
                  obtain ⟨rfl, hd6, hb6⟩ := HD5.out.read hto hsz6
                  have HD6 := Lib.hid hd6
                  have HB6 := Lib.hid (HB5.out.trans hb6)
                  clear hto hd6 hb6 HC6 hsz6
                  clear c0 c1 c2 c3 c4 c5 c6 c7 c8 z0 z1 z2 z3 z4 z5 z6 z7 z8
                  obtain ⟨c0, c1, c2, c3, c4, c5, c6, c7, c8⟩ := ob_cells' HD6.out.ob
                  obtain ⟨z0, z1, z2, z3, z4, z5, z6, z7, z8⟩ := ob_free' HD6.out.ob
                  obtain ⟨hd7, hb7⟩ := HD6.out.set 5 (.string tw) (o' := (⟨3, noB, [], tr, l, tw, noB, 0, noB⟩ : ObjS)) rfl rfl rfl
                  have HD7 := Lib.hid hd7
                  have HB7 := Lib.hid (HB6.out.trans hb7)
                  clear hd7 hb7
                  have HC8 := Lib.hid (rNumber_any HD7.out.rd (by have := HD7.out.sz; unfold maxLen; omega))
                  have hle8 := rNum_le s2
                  obtain ⟨⟨tt, s3⟩, hq8⟩ : ∃ q, q = rNum s2 := ⟨_, rfl⟩
                  rw [← hq8] at HC8 hle8
                  have HQ8 := Lib.hid hq8.symm
                  have hsz8 : s3.1.size ≤ 8192 := Nat.le_trans hle8 HD7.out.sz
                  clear hq8 hle8
                  go_wp2_with fail
                  (with_reducible refine HC8.out.mono ?_)
                  rintro e w8 hto
                  obtain ⟨rfl, hd8, hb8⟩ := HD7.out.read hto hsz8
                  have HD8 := Lib.hid hd8
                  have HB8 := Lib.hid (HB7.out.trans hb8)
                  clear hto hd8 hb8 HC8 hsz8
                  clear c0 c1 c2 c3 c4 c5 c6 c7 c8 z0 z1 z2 z3 z4 z5 z6 z7 z8
                  obtain ⟨c0, c1, c2, c3, c4, c5, c6, c7, c8⟩ := ob_cells' HD8.out.ob
                  obtain ⟨z0, z1, z2, z3, z4, z5, z6, z7, z8⟩ := ob_free' HD8.out.ob
                  obtain ⟨hd9x, hb9x⟩ := HD8.out.set 7 (.int .i64 (tt : Int)) (o' := (⟨3, noB, [], tr, l, tw, noB, (tt : Int), noB⟩ : ObjS)) rfl rfl rfl
                  have HD9x := Lib.hid hd9x
                  have HB9x := Lib.hid (HB8.out.trans hb9x)
                  clear hd9x hb9x
                  have HC10 := Lib.hid (rText_any HD9x.out.rd (by have := HD9x.out.sz; omega))
                  have hle10 := rTxt_le s3
                  obtain ⟨⟨tn, s4⟩, hq10⟩ : ∃ q, q = rTxt s3 := ⟨_, rfl⟩
                  rw [← hq10] at HC10 hle10
                  have HQ10 := Lib.hid hq10.symm
                  have hsz10 : s4.1.size ≤ 8192 := Nat.le_trans hle10 HD9x.out.sz
                  clear hq10 hle10
                  go_wp2_with fail
                  (with_reducible refine HC10.out.mono ?_)
                  rintro e w10 hto
                  obtain ⟨rfl, hd10, hb10⟩ := HD9x.out.read hto hsz10
                  have HD10 := Lib.hid hd10
                  have HB10 := Lib.hid (HB9x.out.trans hb10)
                  clear hto hd10 hb10 HC10 hsz10
                  clear c0 c1 c2 c3 c4 c5 c6 c7 c8 z0 z1 z2 z3 z4 z5 z6 z7 z8
                  obtain ⟨c0, c1, c2, c3, c4, c5, c6, c7, c8⟩ := ob_cells' HD10.out.ob
                  obtain ⟨z0, z1, z2, z3, z4, z5, z6, z7, z8⟩ := ob_free' HD10.out.ob
                  obtain ⟨hd11, hb11⟩ := HD10.out.set 6 (.string tn) (o' := (⟨3, noB, [], tr, l, tw, tn, (tt : Int), noB⟩ : ObjS)) rfl rfl rfl
                  have HD11 := Lib.hid hd11
                  have HB11 := Lib.hid (HB10.out.trans hb11)
                  clear hd11 hb11
                  obtain ⟨rr, er⟩ := s4
                  have HRAW := Lib.hid (HFL.out.trans (restC_end (.inr HNE.out) HQ6.out HQ8.out HQ10.out))
                  have HKR := Lib.hid (show 1 ≤ (⟨3, noB, [], tr, l, tw, tn, (tt : Int), noB⟩ : ObjS).kind ∧ (⟨3, noB, [], tr, l, tw, tn, (tt : Int), noB⟩ : ObjS).kind ≤ 4 from ⟨(by decide : (1 : Int) ≤ 3), (by decide : (3 : Int) ≤ 4)⟩)
                  clear HFL HQ6 HQ8 HQ10
                  have HCb := Lib.hid (rBad_any HD11.out.rd)
                  go_wp2_with fail
                  (with_reducible refine HCb.out.mono ?_)
                  rintro e w0 ⟨rfl, rfl⟩
                  clear c0 c1 c2 c3 c4 c5 c6 c7 c8 z0 z1 z2 z3 z4 z5 z6 z7 z8
                  obtain ⟨c0, c1, c2, c3, c4, c5, c6, c7, c8⟩ := ob_cells' HD11.out.ob
                  obtain ⟨z0, z1, z2, z3, z4, z5, z6, z7, z8⟩ := ob_free' HD11.out.ob
                  by_cases her : er = 0
                  · subst her
                    have HCl := Lib.hid (rLeft_any HD11.out.rd)
                    go_wp2_with fail
                    (with_reducible refine HCl.out.mono ?_)
                    rintro e w0 ⟨rfl, rfl⟩
                    by_cases hleft : 0 < rr.size
                    · have hF := HRAW.out.trans (endF2_left HKR.out hleft)
                      subst hF
                      have h1 : decide ((0 : Int) < (rr.size : Int)) = true := decide_eq_true (by omega)
                      have h2 : decide (0 < rr.size) = true := decide_eq_true hleft
                      clear hleft
                      obtain ⟨r0, r1, r2, r3, r4, r5, r6, r7, r8⟩ := ob_cells' (o := zeroO) (ve := .slice none 0 0) (vp := .slice none 0 0) (HGR.out _ HB11.out)
                      obtain ⟨y0, y1, y2, y3, y4, y5, y6, y7, y8⟩ := ob_free' (o := zeroO) (ve := .slice none 0 0) (vp := .slice none 0 0) (HGR.out _ HB11.out)
                      go_wp2_with fail
                      refine bodyPost_ret (v := .tuple #[.agg (objC zeroO (.slice none 0 0) (.slice none 0 0)).toArray, .int .i64 (2)]) ?_ rfl ⟨.slice none 0 0, .slice none 0 0, rfl, rdE_nil _, rdS_nil _, ?_⟩
                      · simp [results, Tryd.f27, go_sem, objC, zeroO, noB, r0, r1, r2, r3, r4, r5, r6, r7, r8]
                      · exact set9 (HW0.out.trans (HB11.out.mono HW0.out.size)) (by have := HW0.out.size; omega) _ _ _ _ _ _ _ _ _
                    · have h1 : decide ((0 : Int) < (rr.size : Int)) = false := decide_eq_false (by omega)
                      have h2 : decide (0 < rr.size) = false := decide_eq_false hleft
                      have HFG := Lib.hid (HRAW.out.trans (endF2_good (.inr (by omega))))
                      clear hleft
                      have HCg := Lib.hid (ogood_any _ _ _ _ (rdRow_of_owns HD11.out.es) (rdRow_of_owns HD11.out.ps))
                      obtain ⟨gq, hgq⟩ : ∃ e : Int, e = goodF (⟨3, noB, [], tr, l, tw, tn, (tt : Int), noB⟩ : ObjS) := ⟨_, rfl⟩
                      have gob := HD11.out.ob
                      have HGQ := Lib.hid hgq
                      rw [← hgq] at HCg HFG
                      clear hgq
                      go_wp2_with (first | (refine wpList_load_blk (by rfl) 54 (.tmp 5) rfl q rfl (.agg (objC (⟨3, noB, [], tr, l, tw, tn, (tt : Int), noB⟩ : ObjS) _ _).toArray) rfl gob Tryd.underlying54 rfl (by kernel_rfl) ?_))
                      (with_reducible refine HCg.out.mono ?_)
                      rintro e w9 ⟨rfl, hb9⟩
                      have HB9 := Lib.hid (HB11.out.trans (hb9.mono HD11.out.le.2.2))
                      have HD9 := Lib.hid (HD11.out.below hb9)
                      clear hb9 gob HCg
                      clear c0 c1 c2 c3 c4 c5 c6 c7 c8 z0 z1 z2 z3 z4 z5 z6 z7 z8
                      obtain ⟨c0, c1, c2, c3, c4, c5, c6, c7, c8⟩ := ob_cells' HD9.out.ob
                      obtain ⟨z0, z1, z2, z3, z4, z5, z6, z7, z8⟩ := ob_free' HD9.out.ob
                      by_cases hg0 : gq = 0
                      · have hF := HFG.out.trans (if_neg (by simpa using hg0))
                        subst hF hg0
                        have gob9 := HD9.out.ob
                        have gR9 := HGR.out _ HB9.out
                        have hone9 := HD9.out.one
                        go_wp2_with (first | (refine wpList_load_blk (by rfl) 54 (.tmp 5) rfl q rfl (.agg (objC (⟨3, noB, [], tr, l, tw, tn, (tt : Int), noB⟩ : ObjS) _ _).toArray) rfl gob9 Tryd.underlying54 rfl (by kernel_rfl) ?_) | (refine wpList_store_blk (by rfl) 54 (.tmp 2) (.tmp 128) rfl w.heap.size (objC (⟨3, noB, [], tr, l, tw, tn, (tt : Int), noB⟩ : ObjS) _ _).toArray rfl rfl gR9 info_ob rfl hone9 ?_; intro wz hRz hUz))
                        obtain ⟨r0, r1, r2, r3, r4, r5, r6, r7, r8⟩ := ob_cells' hRz
                        have hlt : w.heap.size < W.heap.size := lt_of_block (HGR.out _ (Below.refl _ _))
                        refine bodyPost_ret (v := .tuple #[.agg (objC (⟨3, noB, [], tr, l, tw, tn, (tt : Int), noB⟩ : ObjS) (.slice none 0 0) vp).toArray, .int .i64 0]) ?_ rfl ⟨_, _, rfl, rdRow_of_owns (owns_upd HD9.out.es hUz (fun k hk e => by have := owns_ge HD9.out.es hk; omega)), rdRow_of_owns (owns_upd HD9.out.ps hUz (fun k hk e => by have := owns_ge HD9.out.ps hk; omega)), below_upd (HW0.out.trans (HB9.out.mono HW0.out.size)) hUz (Nat.le_refl _) (by have := HW0.out.size; have := HB9.out.size; omega)⟩
                        simp [results, Tryd.f27, go_sem, objC, r0, r1, r2, r3, r4, r5, r6, r7, r8]
                      · have h1 : (gq == 0) = false := beq_eq_false_iff_ne.2 hg0
                        have h2 : (gq != 0) = true := by rw [bne, h1]; rfl
                        have hF := HFG.out.trans (if_pos hg0)
                        subst hF
                        clear hg0
                        obtain ⟨r0, r1, r2, r3, r4, r5, r6, r7, r8⟩ := ob_cells' (o := zeroO) (ve := .slice none 0 0) (vp := .slice none 0 0) (HGR.out _ HB9.out)
                        obtain ⟨y0, y1, y2, y3, y4, y5, y6, y7, y8⟩ := ob_free' (o := zeroO) (ve := .slice none 0 0) (vp := .slice none 0 0) (HGR.out _ HB9.out)
                        go_wp2_with fail
                        refine bodyPost_ret (v := .tuple #[.agg (objC zeroO (.slice none 0 0) (.slice none 0 0)).toArray, .int .i64 (gq)]) ?_ rfl ⟨.slice none 0 0, .slice none 0 0, rfl, rdE_nil _, rdS_nil _, ?_⟩
                        · simp [results, Tryd.f27, go_sem, objC, zeroO, noB, r0, r1, r2, r3, r4, r5, r6, r7, r8]
                        · exact set9 (HW0.out.trans (HB9.out.mono HW0.out.size)) (by have := HW0.out.size; omega) _ _ _ _ _ _ _ _ _
                  · have h1 : (er == 0) = false := beq_eq_false_iff_ne.2 her
                    have h2 : (er != 0) = true := by rw [bne, h1]; rfl
                    have hF := HRAW.out.trans (endF2_bad her)
                    subst hF
                    clear her
                    obtain ⟨r0, r1, r2, r3, r4, r5, r6, r7, r8⟩ := ob_cells' (o := zeroO) (ve := .slice none 0 0) (vp := .slice none 0 0) (HGR.out _ HB11.out)
                    obtain ⟨y0, y1, y2, y3, y4, y5, y6, y7, y8⟩ := ob_free' (o := zeroO) (ve := .slice none 0 0) (vp := .slice none 0 0) (HGR.out _ HB11.out)
                    go_wp2_with fail
                    refine bodyPost_ret (v := .tuple #[.agg (objC zeroO (.slice none 0 0) (.slice none 0 0)).toArray, .int .i64 (2)]) ?_ rfl ⟨.slice none 0 0, .slice none 0 0, rfl, rdE_nil _, rdS_nil _, ?_⟩
                    · simp [results, Tryd.f27, go_sem, objC, zeroO, noB, r0, r1, r2, r3, r4, r5, r6, r7, r8]
                    · exact set9 (HW0.out.trans (HB11.out.mono HW0.out.size)) (by have := HW0.out.size; omega) _ _ _ _ _ _ _ _ _
              · have hpi : decide ((0 : Int) < (n : Int)) = false := decide_eq_false (by omega)
                have hpn : decide (0 < n) = false := decide_eq_false hpos
                have HNE := Lib.hid (show n = 0 by omega)
                clear hpos
                have HC6 := Lib.hid (rText_any HD5.out.rd (by have := HD5.out.sz; omega))
                have hle6 := rTxt_le (ra, ea)
                obtain ⟨⟨tw, s2⟩, hq6⟩ : ∃ q, q = rTxt (ra, ea) := ⟨_, rfl⟩
                rw [← hq6] at HC6 hle6
                have HQ6 := Lib.hid hq6.symm
                have hsz6 : s2.1.size ≤ 8192 := Nat.le_trans hle6 HD5.out.sz
                clear hq6 hle6
                go_wp2_with fail
                (with_reducible refine HC6.out.mono ?_)
                rintro e w6 hto
                obtain ⟨rfl, hd6, hb6⟩ := HD5.out.read hto hsz6
                have HD6 := Lib.hid hd6
                have HB6 := Lib.hid (HB5.out.trans hb6)
                clear hto hd6 hb6 HC6 hsz6
                clear c0 c1 c2 c3 c4 c5 c6 c7 c8 z0 z1 z2 z3 z4 z5 z6 z7 z8
                obtain ⟨c0, c1, c2, c3, c4, c5, c6, c7, c8⟩ := ob_cells' HD6.out.ob
                obtain ⟨z0, z1, z2, z3, z4, z5, z6, z7, z8⟩ := ob_free' HD6.out.ob
                obtain ⟨hd7, hb7⟩ := HD6.out.set 5 (.string tw) (o' := (⟨3, noB, [], tr, l, tw, noB, 0, noB⟩ : ObjS)) rfl rfl rfl
                have HD7 := Lib.hid hd7
                have HB7 := Lib.hid (HB6.out.trans hb7)
                clear hd7 hb7
                have HC8 := Lib.hid (rNumber_any HD7.out.rd (by have := HD7.out.sz; unfold maxLen; omega))
                have hle8 := rNum_le s2
                obtain ⟨⟨tt, s3⟩, hq8⟩ : ∃ q, q = rNum s2 := ⟨_, rfl⟩
                rw [← hq8] at HC8 hle8
                have HQ8 := Lib.hid hq8.symm
                have hsz8 : s3.1.size ≤ 8192 := Nat.le_trans hle8 HD7.out.sz
                clear hq8 hle8
                go_wp2_with fail
                (with_reducible refine HC8.out.mono ?_)
                rintro e w8 hto
                obtain ⟨rfl, hd8, hb8⟩ := HD7.out.read hto hsz8
                have HD8 := Lib.hid hd8
                have HB8 := Lib.hid (HB7.out.trans hb8)
                clear hto hd8 hb8 HC8 hsz8
                clear c0 c1 c2 c3 c4 c5 c6 c7 c8 z0 z1 z2 z3 z4 z5 z6 z7 z8
                obtain ⟨c0, c1, c2, c3, c4, c5, c6, c7, c8⟩ := ob_cells' HD8.out.ob
                obtain ⟨z0, z1, z2, z3, z4, z5, z6, z7, z8⟩ := ob_free' HD8.out.ob
                obtain ⟨hd9x, hb9x⟩ := HD8.out.set 7 (.int .i64 (tt : Int)) (o' := (⟨3, noB, [], tr, l, tw, noB, (tt : Int), noB⟩ : ObjS)) rfl rfl rfl
                have HD9x := Lib.hid hd9x
                have HB9x := Lib.hid (HB8.out.trans hb9x)
                clear hd9x hb9x
                have HC10 := Lib.hid (rText_any HD9x.out.rd (by have := HD9x.out.sz; omega))
                have hle10 := rTxt_le s3
                obtain ⟨⟨tn, s4⟩, hq10⟩ : ∃ q, q = rTxt s3 := ⟨_, rfl⟩
                rw [← hq10] at HC10 hle10
                have HQ10 := Lib.hid hq10.symm
                have hsz10 : s4.1.size ≤ 8192 := Nat.le_trans hle10 HD9x.out.sz
                clear hq10 hle10
                go_wp2_with fail
                (with_reducible refine HC10.out.mono ?_)
                rintro e w10 hto
                obtain ⟨rfl, hd10, hb10⟩ := HD9x.out.read hto hsz10
                have HD10 := Lib.hid hd10
                have HB10 := Lib.hid (HB9x.out.trans hb10)
                clear hto hd10 hb10 HC10 hsz10
                clear c0 c1 c2 c3 c4 c5 c6 c7 c8 z0 z1 z2 z3 z4 z5 z6 z7 z8
                obtain ⟨c0, c1, c2, c3, c4, c5, c6, c7, c8⟩ := ob_cells' HD10.out.ob
                obtain ⟨z0, z1, z2, z3, z4, z5, z6, z7, z8⟩ := ob_free' HD10.out.ob
                obtain ⟨hd11, hb11⟩ := HD10.out.set 6 (.string tn) (o' := (⟨3, noB, [], tr, l, tw, tn, (tt : Int), noB⟩ : ObjS)) rfl rfl rfl
                have HD11 := Lib.hid hd11
                have HB11 := Lib.hid (HB10.out.trans hb11)
                clear hd11 hb11
                obtain ⟨rr, er⟩ := s4
                have HRAW := Lib.hid (HFL.out.trans (restC_end (.inl HNE.out) HQ6.out HQ8.out HQ10.out))
                have HKR := Lib.hid (show 1 ≤ (⟨3, noB, [], tr, l, tw, tn, (tt : Int), noB⟩ : ObjS).kind ∧ (⟨3, noB, [], tr, l, tw, tn, (tt : Int), noB⟩ : ObjS).kind ≤ 4 from ⟨(by decide : (1 : Int) ≤ 3), (by decide : (3 : Int) ≤ 4)⟩)
                clear HFL HQ6 HQ8 HQ10
                have HCb := Lib.hid (rBad_any HD11.out.rd)
                go_wp2_with fail
                (with_reducible refine HCb.out.mono ?_)
                rintro e w0 ⟨rfl, rfl⟩
                clear c0 c1 c2 c3 c4 c5 c6 c7 c8 z0 z1 z2 z3 z4 z5 z6 z7 z8
                obtain ⟨c0, c1, c2, c3, c4, c5, c6, c7, c8⟩ := ob_cells' HD11.out.ob
                obtain ⟨z0, z1, z2, z3, z4, z5, z6, z7, z8⟩ := ob_free' HD11.out.ob
                by_cases her : er = 0
                · subst her
                  have HCl := Lib.hid (rLeft_any HD11.out.rd)
                  go_wp2_with fail
                  (with_reducible refine HCl.out.mono ?_)
                  rintro e w0 ⟨rfl, rfl⟩
                  by_cases hleft : 0 < rr.size
                  · have hF := HRAW.out.trans (endF2_left HKR.out hleft)
                    subst hF
                    have h1 : decide ((0 : Int) < (rr.size : Int)) = true := decide_eq_true (by omega)
                    have h2 : decide (0 < rr.size) = true := decide_eq_true hleft
                    clear hleft
                    obtain ⟨r0, r1, r2, r3, r4, r5, r6, r7, r8⟩ := ob_cells' (o := zeroO) (ve := .slice none 0 0) (vp := .slice none 0 0) (HGR.out _ HB11.out)
                    obtain ⟨y0, y1, y2, y3, y4, y5, y6, y7, y8⟩ := ob_free' (o := zeroO) (ve := .slice none 0 0) (vp := .slice none 0 0) (HGR.out _ HB11.out)
                    go_wp2_with fail
                    refine bodyPost_ret (v := .tuple #[.agg (objC zeroO (.slice none 0 0) (.slice none 0 0)).toArray, .int .i64 (2)]) ?_ rfl ⟨.slice none 0 0, .slice none 0 0, rfl, rdE_nil _, rdS_nil _, ?_⟩
                    · simp [results, Tryd.f27, go_sem, objC, zeroO, noB, r0, r1, r2, r3, r4, r5, r6, r7, r8]
                    · exact set9 (HW0.out.trans (HB11.out.mono HW0.out.size)) (by have := HW0.out.size; omega) _ _ _ _ _ _ _ _ _
                  · have h1 : decide ((0 : Int) < (rr.size : Int)) = false := decide_eq_false (by omega)
                    have h2 : decide (0 < rr.size) = false := decide_eq_false hleft
                    have HFG := Lib.hid (HRAW.out.trans (endF2_good (.inr (by omega))))
                    clear hleft
                    have HCg := Lib.hid (ogood_any _ _ _ _ (rdRow_of_owns HD11.out.es) (rdRow_of_owns HD11.out.ps))
                    obtain ⟨gq, hgq⟩ : ∃ e : Int, e = goodF (⟨3, noB, [], tr, l, tw, tn, (tt : Int), noB⟩ : ObjS) := ⟨_, rfl⟩
                    have gob := HD11.out.ob
                    have HGQ := Lib.hid hgq
                    rw [← hgq] at HCg HFG
                    clear hgq
                    go_wp2_with (first | (refine wpList_load_blk (by rfl) 54 (.tmp 5) rfl q rfl (.agg (objC (⟨3, noB, [], tr, l, tw, tn, (tt : Int), noB⟩ : ObjS) _ _).toArray) rfl gob Tryd.underlying54 rfl (by kernel_rfl) ?_))
                    (with_reducible refine HCg.out.mono ?_)
                    rintro e w9 ⟨rfl, hb9⟩
                    have HB9 := Lib.hid (HB11.out.trans (hb9.mono HD11.out.le.2.2))
                    have HD9 := Lib.hid (HD11.out.below hb9)
                    clear hb9 gob HCg
                    clear c0 c1 c2 c3 c4 c5 c6 c7 c8 z0 z1 z2 z3 z4 z5 z6 z7 z8
                    obtain ⟨c0, c1, c2, c3, c4, c5, c6, c7, c8⟩ := ob_cells' HD9.out.ob
                    obtain ⟨z0, z1, z2, z3, z4, z5, z6, z7, z8⟩ := ob_free' HD9.out.ob
                    by_cases hg0 : gq = 0
                    · have hF := HFG.out.trans (if_neg (by simpa using hg0))
                      subst hF hg0
                      have gob9 := HD9.out.ob
                      have gR9 := HGR.out _ HB9.out
                      have hone9 := HD9.out.one
                      go_wp2_with (first | (refine wpList_load_blk (by rfl) 54 (.tmp 5) rfl q rfl (.agg (objC (⟨3, noB, [], tr, l, tw, tn, (tt : Int), noB⟩ : ObjS) _ _).toArray) rfl gob9 Tryd.underlying54 rfl (by kernel_rfl) ?_) | (refine wpList_store_blk (by rfl) 54 (.tmp 2) (.tmp 128) rfl w.heap.size (objC (⟨3, noB, [], tr, l, tw, tn, (tt : Int), noB⟩ : ObjS) _ _).toArray rfl rfl gR9 info_ob rfl hone9 ?_; intro wz hRz hUz))
                      obtain ⟨r0, r1, r2, r3, r4, r5, r6, r7, r8⟩ := ob_cells' hRz
                      have hlt : w.heap.size < W.heap.size := lt_of_block (HGR.out _ (Below.refl _ _))
                      refine bodyPost_ret (v := .tuple #[.agg (objC (⟨3, noB, [], tr, l, tw, tn, (tt : Int), noB⟩ : ObjS) (.slice none 0 0) vp).toArray, .int .i64 0]) ?_ rfl ⟨_, _, rfl, rdRow_of_owns (owns_upd HD9.out.es hUz (fun k hk e => by have := owns_ge HD9.out.es hk; omega)), rdRow_of_owns (owns_upd HD9.out.ps hUz (fun k hk e => by have := owns_ge HD9.out.ps hk; omega)), below_upd (HW0.out.trans (HB9.out.mono HW0.out.size)) hUz (Nat.le_refl _) (by have := HW0.out.size; have := HB9.out.size; omega)⟩
                      simp [results, Tryd.f27, go_sem, objC, r0, r1, r2, r3, r4, r5, r6, r7, r8]
                    · have h1 : (gq == 0) = false := beq_eq_false_iff_ne.2 hg0
                      have h2 : (gq != 0) = true := by rw [bne, h1]; rfl
                      have hF := HFG.out.trans (if_pos hg0)
                      subst hF
                      clear hg0
                      obtain ⟨r0, r1, r2, r3, r4, r5, r6, r7, r8⟩ := ob_cells' (o := zeroO) (ve := .slice none 0 0) (vp := .slice none 0 0) (HGR.out _ HB9.out)
                      obtain ⟨y0, y1, y2, y3, y4, y5, y6, y7, y8⟩ := ob_free' (o := zeroO) (ve := .slice none 0 0) (vp := .slice none 0 0) (HGR.out _ HB9.out)
                      go_wp2_with fail
                      refine bodyPost_ret (v := .tuple #[.agg (objC zeroO (.slice none 0 0) (.slice none 0 0)).toArray, .int .i64 (gq)]) ?_ rfl ⟨.slice none 0 0, .slice none 0 0, rfl, rdE_nil _, rdS_nil _, ?_⟩
                      · simp [results, Tryd.f27, go_sem, objC, zeroO, noB, r0, r1, r2, r3, r4, r5, r6, r7, r8]
                      · exact set9 (HW0.out.trans (HB9.out.mono HW0.out.size)) (by have := HW0.out.size; omega) _ _ _ _ _ _ _ _ _
                · have h1 : (er == 0) = false := beq_eq_false_iff_ne.2 her
                  have h2 : (er != 0) = true := by rw [bne, h1]; rfl
                  have hF := HRAW.out.trans (endF2_bad her)
                  subst hF
                  clear her
                  obtain ⟨r0, r1, r2, r3, r4, r5, r6, r7, r8⟩ := ob_cells' (o := zeroO) (ve := .slice none 0 0) (vp := .slice none 0 0) (HGR.out _ HB11.out)
                  obtain ⟨y0, y1, y2, y3, y4, y5, y6, y7, y8⟩ := ob_free' (o := zeroO) (ve := .slice none 0 0) (vp := .slice none 0 0) (HGR.out _ HB11.out)
                  go_wp2_with fail
                  refine bodyPost_ret (v := .tuple #[.agg (objC zeroO (.slice none 0 0) (.slice none 0 0)).toArray, .int .i64 (2)]) ?_ rfl ⟨.slice none 0 0, .slice none 0 0, rfl, rdE_nil _, rdS_nil _, ?_⟩
                  · simp [results, Tryd.f27, go_sem, objC, zeroO, noB, r0, r1, r2, r3, r4, r5, r6, r7, r8]
                  · exact set9 (HW0.out.trans (HB11.out.mono HW0.out.size)) (by have := HW0.out.size; omega) _ _ _ _ _ _ _ _ _
          · have k0 := k3
            obtain ⟨i1, i2, i3, i4, i5, i6, i7, i8⟩ := ob_set_id HD3.out.ob
            obtain ⟨rr, er⟩ := st1
            have HRAW := Lib.hid (HFF.out.trans (decodeF_some HNB.out (raw_0 HQ1'.out k1 k2 k3 k4)))
            have HKR := Lib.hid (show ¬ (1 ≤ ({ zeroO with kind := (K : Int) } : ObjS).kind ∧ ({ zeroO with kind := (K : Int) } : ObjS).kind ≤ 4) from fun h => by have h1 : (1 : Int) ≤ (K : Int) := h.1; have h2 : (K : Int) ≤ 4 := h.2; omega)
            have q1 : ((K : Int) == 1) = false := beq_eq_false_iff_ne.2 (by omega)
            have q2 : ((K : Int) == 2) = false := beq_eq_false_iff_ne.2 (by omega)
            have q3 : ((K : Int) == 3) = false := beq_eq_false_iff_ne.2 (by omega)
            have q4 : ((K : Int) == 4) = false := beq_eq_false_iff_ne.2 (by omega)
            rcases Nat.eq_zero_or_pos K with hK0 | hK0
            · have j1 : decide ((1 : Int) ≤ (K : Int)) = false := decide_eq_false (by omega)
              have j1n : decide (1 ≤ K) = false := decide_eq_false (by omega)
              clear k0 k1 k2 k3 k4 hK0
              have HCb := Lib.hid (rBad_any HD3.out.rd)
              go_wp2_with fail
              (with_reducible refine HCb.out.mono ?_)
              rintro e w0 ⟨rfl, rfl⟩
              clear c0 c1 c2 c3 c4 c5 c6 c7 c8 z0 z1 z2 z3 z4 z5 z6 z7 z8
              obtain ⟨c0, c1, c2, c3, c4, c5, c6, c7, c8⟩ := ob_cells' HD3.out.ob
              obtain ⟨z0, z1, z2, z3, z4, z5, z6, z7, z8⟩ := ob_free' HD3.out.ob
              by_cases her : er = 0
              · subst her
                have HFG := Lib.hid (HRAW.out.trans (endF2_good (.inl HKR.out)))
                have HCg := Lib.hid (ogood_any _ _ _ _ (rdRow_of_owns HD3.out.es) (rdRow_of_owns HD3.out.ps))
                obtain ⟨gq, hgq⟩ : ∃ e : Int, e = goodF ({ zeroO with kind := (K : Int) } : ObjS) := ⟨_, rfl⟩
                have gob := HD3.out.ob
                have HGQ := Lib.hid hgq
                rw [← hgq] at HCg HFG
                clear hgq
                go_wp2_with (first | (refine wpList_load_blk (by rfl) 54 (.tmp 5) rfl q rfl (.agg (objC ({ zeroO with kind := (K : Int) } : ObjS) _ _).toArray) rfl gob Tryd.underlying54 rfl (by kernel_rfl) ?_))
                (with_reducible refine HCg.out.mono ?_)
                rintro e w9 ⟨rfl, hb9⟩
                have HB9 := Lib.hid (HB3.out.trans (hb9.mono HD3.out.le.2.2))
                have HD9 := Lib.hid (HD3.out.below hb9)
                clear hb9 gob HCg
                clear c0 c1 c2 c3 c4 c5 c6 c7 c8 z0 z1 z2 z3 z4 z5 z6 z7 z8
                obtain ⟨c0, c1, c2, c3, c4, c5, c6, c7, c8⟩ := ob_cells' HD9.out.ob
                obtain ⟨z0, z1, z2, z3, z4, z5, z6, z7, z8⟩ := ob_free' HD9.out.ob
                by_cases hg0 : gq = 0
                · have hF := HFG.out.trans (if_neg (by simpa using hg0))
                  subst hF hg0
                  have gob9 := HD9.out.ob
                  have gR9 := HGR.out _ HB9.out
                  have hone9 := HD9.out.one
                  go_wp2_with (first | (refine wpList_load_blk (by rfl) 54 (.tmp 5) rfl q rfl (.agg (objC ({ zeroO with kind := (K : Int) } : ObjS) _ _).toArray) rfl gob9 Tryd.underlying54 rfl (by kernel_rfl) ?_) | (refine wpList_store_blk (by rfl) 54 (.tmp 2) (.tmp 128) rfl w.heap.size (objC ({ zeroO with kind := (K : Int) } : ObjS) _ _).toArray rfl rfl gR9 info_ob rfl hone9 ?_; intro wz hRz hUz))
                  obtain ⟨r0, r1, r2, r3, r4, r5, r6, r7, r8⟩ := ob_cells' hRz
                  have hlt : w.heap.size < W.heap.size := lt_of_block (HGR.out _ (Below.refl _ _))
                  refine bodyPost_ret (v := .tuple #[.agg (objC ({ zeroO with kind := (K : Int) } : ObjS) (.slice none 0 0) (.slice none 0 0)).toArray, .int .i64 0]) ?_ rfl ⟨_, _, rfl, rdRow_of_owns (owns_upd HD9.out.es hUz (fun k hk e => by have := owns_ge HD9.out.es hk; omega)), rdRow_of_owns (owns_upd HD9.out.ps hUz (fun k hk e => by have := owns_ge HD9.out.ps hk; omega)), below_upd (HW0.out.trans (HB9.out.mono HW0.out.size)) hUz (Nat.le_refl _) (by have := HW0.out.size; have := HB9.out.size; omega)⟩
                  simp [results, Tryd.f27, go_sem, objC, r0, r1, r2, r3, r4, r5, r6, r7, r8]
                · have h1 : (gq == 0) = false := beq_eq_false_iff_ne.2 hg0
                  have h2 : (gq != 0) = true := by rw [bne, h1]; rfl
                  have hF := HFG.out.trans (if_pos hg0)
                  subst hF
                  clear hg0
                  obtain ⟨r0, r1, r2, r3, r4, r5, r6, r7, r8⟩ := ob_cells' (o := zeroO) (ve := .slice none 0 0) (vp := .slice none 0 0) (HGR.out _ HB9.out)
                  obtain ⟨y0, y1, y2, y3, y4, y5, y6, y7, y8⟩ := ob_free' (o := zeroO) (ve := .slice none 0 0) (vp := .slice none 0 0) (HGR.out _ HB9.out)
                  go_wp2_with fail
                  refine bodyPost_ret (v := .tuple #[.agg (objC zeroO (.slice none 0 0) (.slice none 0 0)).toArray, .int .i64 (gq)]) ?_ rfl ⟨.slice none 0 0, .slice none 0 0, rfl, rdE_nil _, rdS_nil _, ?_⟩
                  · simp [results, Tryd.f27, go_sem, objC, zeroO, noB, r0, r1, r2, r3, r4, r5, r6, r7, r8]
                  · exact set9 (HW0.out.trans (HB9.out.mono HW0.out.size)) (by have := HW0.out.size; omega) _ _ _ _ _ _ _ _ _
              · have h1 : (er == 0) = false := beq_eq_false_iff_ne.2 her
                have h2 : (er != 0) = true := by rw [bne, h1]; rfl
                have hF := HRAW.out.trans (endF2_bad her)
                subst hF
                clear her
                obtain ⟨r0, r1, r2, r3, r4, r5, r6, r7, r8⟩ := ob_cells' (o := zeroO) (ve := .slice none 0 0) (vp := .slice none 0 0) (HGR.out _ HB3.out)
                obtain ⟨y0, y1, y2, y3, y4, y5, y6, y7, y8⟩ := ob_free' (o := zeroO) (ve := .slice none 0 0) (vp := .slice none 0 0) (HGR.out _ HB3.out)
                go_wp2_with fail
                refine bodyPost_ret (v := .tuple #[.agg (objC zeroO (.slice none 0 0) (.slice none 0 0)).toArray, .int .i64 (2)]) ?_ rfl ⟨.slice none 0 0, .slice none 0 0, rfl, rdE_nil _, rdS_nil _, ?_⟩
                · simp [results, Tryd.f27, go_sem, objC, zeroO, noB, r0, r1, r2, r3, r4, r5, r6, r7, r8]
                · exact set9 (HW0.out.trans (HB3.out.mono HW0.out.size)) (by have := HW0.out.size; omega) _ _ _ _ _ _ _ _ _
            · have j1 : decide ((1 : Int) ≤ (K : Int)) = true := decide_eq_true (by omega)
              have j1n : decide (1 ≤ K) = true := decide_eq_true hK0
              have j2 : decide ((K : Int) ≤ 4) = false := decide_eq_false (by omega)
              have j2n : decide (K ≤ 4) = false := decide_eq_false (by omega)
              clear k0 k1 k2 k3 k4 hK0
              have HCb := Lib.hid (rBad_any HD3.out.rd)
              go_wp2_with fail
              (with_reducible refine HCb.out.mono ?_)
              rintro e w0 ⟨rfl, rfl⟩
              clear c0 c1 c2 c3 c4 c5 c6 c7 c8 z0 z1 z2 z3 z4 z5 z6 z7 z8
              obtain ⟨c0, c1, c2, c3, c4, c5, c6, c7, c8⟩ := ob_cells' HD3.out.ob
              obtain ⟨z0, z1, z2, z3, z4, z5, z6, z7, z8⟩ := ob_free' HD3.out.ob
              by_cases her : er = 0
              · subst her
                have HFG := Lib.hid (HRAW.out.trans (endF2_good (.inl HKR.out)))
                have HCg := Lib.hid (ogood_any _ _ _ _ (rdRow_of_owns HD3.out.es) (rdRow_of_owns HD3.out.ps))
                obtain ⟨gq, hgq⟩ : ∃ e : Int, e = goodF ({ zeroO with kind := (K : Int) } : ObjS) := ⟨_, rfl⟩
                have gob := HD3.out.ob
                have HGQ := Lib.hid hgq
                rw [← hgq] at HCg HFG
                clear hgq
                go_wp2_with (first | (refine wpList_load_blk (by rfl) 54 (.tmp 5) rfl q rfl (.agg (objC ({ zeroO with kind := (K : Int) } : ObjS) _ _).toArray) rfl gob Tryd.underlying54 rfl (by kernel_rfl) ?_))
                (with_reducible refine HCg.out.mono ?_)
                rintro e w9 ⟨rfl, hb9⟩
                have HB9 := Lib.hid (HB3.out.trans (hb9.mono HD3.out.le.2.2))
                have HD9 := Lib.hid (HD3.out.below hb9)
                clear hb9 gob HCg
                clear c0 c1 c2 c3 c4 c5 c6 c7 c8 z0 z1 z2 z3 z4 z5 z6 z7 z8
                obtain ⟨c0, c1, c2, c3, c4, c5, c6, c7, c8⟩ := ob_cells' HD9.out.ob
                obtain ⟨z0, z1, z2, z3, z4, z5, z6, z7, z8⟩ := ob_free' HD9.out.ob
                by_cases hg0 : gq = 0
                · have hF := HFG.out.trans (if_neg (by simpa using hg0))
                  subst hF hg0
                  have gob9 := HD9.out.ob
                  have gR9 := HGR.out _ HB9.out
                  have hone9 := HD9.out.one
                  go_wp2_with (first | (refine wpList_load_blk (by rfl) 54 (.tmp 5) rfl q rfl (.agg (objC ({ zeroO with kind := (K : Int) } : ObjS) _ _).toArray) rfl gob9 Tryd.underlying54 rfl (by kernel_rfl) ?_) | (refine wpList_store_blk (by rfl) 54 (.tmp 2) (.tmp 128) rfl w.heap.size (objC ({ zeroO with kind := (K : Int) } : ObjS) _ _).toArray rfl rfl gR9 info_ob rfl hone9 ?_; intro wz hRz hUz))
                  obtain ⟨r0, r1, r2, r3, r4, r5, r6, r7, r8⟩ := ob_cells' hRz
                  have hlt : w.heap.size < W.heap.size := lt_of_block (HGR.out _ (Below.refl _ _))
                  refine bodyPost_ret (v := .tuple #[.agg (objC ({ zeroO with kind := (K : Int) } : ObjS) (.slice none 0 0) (.slice none 0 0)).toArray, .int .i64 0]) ?_ rfl ⟨_, _, rfl, rdRow_of_owns (owns_upd HD9.out.es hUz (fun k hk e => by have := owns_ge HD9.out.es hk; omega)), rdRow_of_owns (owns_upd HD9.out.ps hUz (fun k hk e => by have := owns_ge HD9.out.ps hk; omega)), below_upd (HW0.out.trans (HB9.out.mono HW0.out.size)) hUz (Nat.le_refl _) (by have := HW0.out.size; have := HB9.out.size; omega)⟩
                  simp [results, Tryd.f27, go_sem, objC, r0, r1, r2, r3, r4, r5, r6, r7, r8]
                · have h1 : (gq == 0) = false := beq_eq_false_iff_ne.2 hg0
                  have h2 : (gq != 0) = true := by rw [bne, h1]; rfl
                  have hF := HFG.out.trans (if_pos hg0)
                  subst hF
                  clear hg0
                  obtain ⟨r0, r1, r2, r3, r4, r5, r6, r7, r8⟩ := ob_cells' (o := zeroO) (ve := .slice none 0 0) (vp := .slice none 0 0) (HGR.out _ HB9.out)
                  obtain ⟨y0, y1, y2, y3, y4, y5, y6, y7, y8⟩ := ob_free' (o := zeroO) (ve := .slice none 0 0) (vp := .slice none 0 0) (HGR.out _ HB9.out)
                  go_wp2_with fail
                  refine bodyPost_ret (v := .tuple #[.agg (objC zeroO (.slice none 0 0) (.slice none 0 0)).toArray, .int .i64 (gq)]) ?_ rfl ⟨.slice none 0 0, .slice none 0 0, rfl, rdE_nil _, rdS_nil _, ?_⟩
                  · simp [results, Tryd.f27, go_sem, objC, zeroO, noB, r0, r1, r2, r3, r4, r5, r6, r7, r8]
                  · exact set9 (HW0.out.trans (HB9.out.mono HW0.out.size)) (by have := HW0.out.size; omega) _ _ _ _ _ _ _ _ _
              · have h1 : (er == 0) = false := beq_eq_false_iff_ne.2 her
                have h2 : (er != 0) = true := by rw [bne, h1]; rfl
                have hF := HRAW.out.trans (endF2_bad her)
                subst hF
                clear her
                obtain ⟨r0, r1, r2, r3, r4, r5, r6, r7, r8⟩ := ob_cells' (o := zeroO) (ve := .slice none 0 0) (vp := .slice none 0 0) (HGR.out _ HB3.out)
                obtain ⟨y0, y1, y2, y3, y4, y5, y6, y7, y8⟩ := ob_free' (o := zeroO) (ve := .slice none 0 0) (vp := .slice none 0 0) (HGR.out _ HB3.out)
                go_wp2_with fail
                refine bodyPost_ret (v := .tuple #[.agg (objC zeroO (.slice none 0 0) (.slice none 0 0)).toArray, .int .i64 (2)]) ?_ rfl ⟨.slice none 0 0, .slice none 0 0, rfl, rdE_nil _, rdS_nil _, ?_⟩
                · simp [results, Tryd.f27, go_sem, objC, zeroO, noB, r0, r1, r2, r3, r4, r5, r6, r7, r8]
                · exact set9 (HW0.out.trans (HB3.out.mono HW0.out.size)) (by have := HW0.out.size; omega) _ _ _ _ _ _ _ _ _
end Go.Proofs.YtalkheljejkpiaaDoor
