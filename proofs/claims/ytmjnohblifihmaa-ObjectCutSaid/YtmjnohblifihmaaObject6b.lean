/- Aid to the walk of object.Decode. -/
import Derived.Test.YtmjnohblifihmaaObject6
namespace Go.Proofs.Ytmjnohblifihmaa
open Go.RowKit
set_option linter.unusedVariables false
set_option linter.unusedSimpArgs false

theorem wpList_append1u {P : Program} {w : World} {ops : Array Oper} {rest : List Oper} {o : Oper} {a : Act} {Q : Exit → Act → World → Prop} (hgd : o.guard = none) (s x : Operand) (t : TypeId)
    (ho : o.op = .call { callee := .builtin .append, args := #[s, x], argTypes := #[t, t] })
    {base : Nat} {e : TypeId} {z : Value} {size bytes : Nat} (hinf : infoIs P e z size bytes) (ht : P.underlying t = some (.slice e)) (hzs : z.cells.size = size) (hsz : 0 < size) (hby : 0 < bytes)
    {v : Value} {n : Nat} {xs : List Value} (hown : w.ownsRow base e size v n xs) (hb : base ≤ w.heap.size)
    {cs : Array Value} (hcs : cs.size = size) (h1 : ∀ u ∈ cs.toList, u.oneCell' = true) (hbytes : (n + 1) * bytes ≤ 140737488355328)
    (hs : a.eval s = v) (hx : a.eval x = .slice (some ⟨w.heap.size, 0, none⟩) 1 1)
    (h : ∀ v' w', w'.ownsRow base e size v' (n + 1) (xs ++ cs.toList) → Upd (fun k => v.ownBlock = some k) w w' → wpList P ops Q rest (a.put o.dst v') w') : wpList P ops Q (o :: rest) a (w.alloc (.cells cs e)) := by
  obtain ⟨i, hi, hz, hsize, hbt⟩ := info_parts hinf
  have hle : n + 1 ≤ (n + 1) * bytes := Nat.le_mul_of_pos_right _ hby
  refine wpList_append_own _ hgd s x t ho base e i z size bytes ht hi hz hsize hbt hzs hsz v n xs hs (hown.alloc _) ⟨w.heap.size, 0, none⟩ 1 1 cs.toList hx (by simp [hcs]) ?_ h1 (by unfold maxLen; omega) hbytes (by simp; omega) ?_
  · intro j u hu
    rw [addr_add, Nat.zero_add]
    exact cell_block j u (by simpa using hu)
  · intro v' w' hown' hgrow _
    exact h v' w' hown' (((Upd.refl _ w).alloc _).grown hgrow (fun k hk => .inl hk))
theorem wp_append1u {P : Program} {w : World} {o : Oper} {a : Act} {K : Act → World → Prop} {Q : Exit → Act → World → Prop} (s x : Operand) (t : TypeId)
    (ho : o.op = .call { callee := .builtin .append, args := #[s, x], argTypes := #[t, t] })
    {base : Nat} {e : TypeId} {z : Value} {bytes : Nat} (hinf : infoIs P e z 1 bytes) (ht : P.underlying t = some (.slice e)) (hzs : z.cells.size = 1) (hby : 0 < bytes)
    {v : Value} {n : Nat} {xs : List Value} (hown : w.ownsRow base e 1 v n xs) (hb : base ≤ w.heap.size)
    {u : Value} (h1 : u.oneCell' = true) (hbytes : (n + 1) * bytes ≤ 140737488355328)
    (hs : a.eval s = v) (hx : a.eval x = .slice (some ⟨w.heap.size, 0, none⟩) 1 1)
    (h : ∀ v' w', w'.ownsRow base e 1 v' (n + 1) (xs ++ [u]) → Upd (fun k => v.ownBlock = some k) w w' → K (a.put o.dst v') w') : o.wp P a (w.alloc (.cells #[u] e)) K Q := by
  obtain ⟨i, hi, hz, hsize, hbt⟩ := info_parts hinf
  have hle : n + 1 ≤ (n + 1) * bytes := Nat.le_mul_of_pos_right _ hby
  refine wp_append_own _ s x t ho base e i z 1 bytes ht hi hz hsize hbt hzs (by decide) v n xs hs (hown.alloc _) ⟨w.heap.size, 0, none⟩ 1 1 [u] hx (by simp) ?_ (by simpa using h1) (by unfold maxLen; omega) hbytes (by simp; omega) ?_
  · intro j x hj
    rw [addr_add, Nat.zero_add]
    exact cell_block j x (by simpa using hj)
  · intro v' w' hown' hgrow _
    exact h v' w' hown' (((Upd.refl _ w).alloc _).grown hgrow (fun k hk => .inl hk))
theorem info_entry : infoIs Try.prog 45 (.agg #[.string ⟨#[]⟩, .bool false, .string ⟨#[]⟩]) 3 40 := by unfold infoIs; kernel_rfl
theorem DecSt.appE {w w' : World} {B g q : Nat} {st : ByteArray × Int} {o o' : Obj} {ve vp ve' : Value} {l' : List Ent} (h : DecSt w B g q st o ve vp) (ho : w'.ownsRow B 45 3 ve' l'.length (evs l')) (hu : Upd (fun k => ve.ownBlock = some k) w w')
    (he : o' = { o with ents := l' }) : DecSt (w'.setCell ⟨q, 2, none⟩ ve') B g q st o' ve' vp ∧ Below B w (w'.setCell ⟨q, 2, none⟩ ve') := by
  obtain ⟨f1, f2, f3, f4, f5, f6⟩ := h.far
  have hob := blk_upd h.ob hu f3
  have hrd := h.rd.upd hu f2
  have hps := owns_upd h.ps hu (fun k hk e => f6 k e hk)
  have hU : Upd (fun k => k = q) w' (w'.setCell ⟨q, 2, none⟩ ve') := (Upd.refl (fun k => k = q) w').setCell (a := ⟨q, 2, none⟩) (.inl rfl) _
  have hne : ∀ k, ve'.ownBlock = some k → ¬ k = q := by
    intro k hk e
    subst e
    obtain ⟨_, cs, f, hc⟩ := owns_elem ho hk
    rw [hc] at hob; simp at hob
  have hle : B ≤ w'.heap.size := Nat.le_trans h.le.2.2 hu.size
  subst he
  refine ⟨⟨hrd.upd hU f1, h.sz, cells_setCell hob 2 ve', owns_upd ho hU hne, owns_upd hps hU (fun k hk e => f5 (e ▸ hk)), h.le.1, h.le.2.1, Nat.le_trans hle hU.size⟩, ?_⟩
  exact (hu.below h.le.2.2 (fun k hk => owns_ge h.es hk)).trans (hU.below hle (fun k hk => by rw [hk]; exact h.le.2.1))
theorem DecSt.appP {w w' : World} {B g q : Nat} {st : ByteArray × Int} {o o' : Obj} {ve vp vp' : Value} {l' : List ByteArray} (h : DecSt w B g q st o ve vp) (ho : w'.ownsRow B 9 1 vp' l'.length (svs l')) (hu : Upd (fun k => vp.ownBlock = some k) w w')
    (he : o' = { o with pars := l' }) : DecSt (w'.setCell ⟨q, 4, none⟩ vp') B g q st o' ve vp' ∧ Below B w (w'.setCell ⟨q, 4, none⟩ vp') := by
  obtain ⟨f1, f2, f3, f4, f5, f6⟩ := h.far
  have hob := blk_upd h.ob hu f5
  have hrd := h.rd.upd hu f4
  have hes := owns_upd h.es hu (fun k hk e => f6 k hk e)
  have hU : Upd (fun k => k = q) w' (w'.setCell ⟨q, 4, none⟩ vp') := (Upd.refl (fun k => k = q) w').setCell (a := ⟨q, 4, none⟩) (.inl rfl) _
  have hne : ∀ k, vp'.ownBlock = some k → ¬ k = q := by
    intro k hk e
    subst e
    obtain ⟨_, cs, f, hc⟩ := owns_elem ho hk
    rw [hc] at hob; simp at hob
  have hle : B ≤ w'.heap.size := Nat.le_trans h.le.2.2 hu.size
  subst he
  refine ⟨⟨hrd.upd hU f1, h.sz, cells_setCell hob 4 vp', owns_upd hes hU (fun k hk e => f3 (e ▸ hk)), owns_upd ho hU hne, h.le.1, h.le.2.1, Nat.le_trans hle hU.size⟩, ?_⟩
  exact (hu.below h.le.2.2 (fun k hk => owns_ge h.ps hk)).trans (hU.below hle (fun k hk => by rw [hk]; exact h.le.2.1))
noncomputable def restT (n : Nat) (st : ByteArray × Int) (l : List Ent) : Obj × Int := match entsL n st l with | none => (zeroO, 2) | some r => endF2 ⟨2, noB, r.1, noB, [], noB, noB, 0, noB⟩ r.2
theorem restT_end {n : Nat} {r : ByteArray} {e : Int} {l : List Ent} (h : n = 0 ∨ e ≠ 0) : restT n (r, e) l = endF2 ⟨2, noB, l, noB, [], noB, noB, 0, noB⟩ (r, e) := by
  unfold restT
  rcases h with rfl | h
  · rfl
  · cases n with
    | zero => rfl
    | succ n => rw [entsL, if_pos h]
theorem restT_wide {n d : Nat} {r nm : ByteArray} {l : List Ent} {s2 s3 : ByteArray × Int} (hn : 0 < n) (h1 : rTxt (r, 0) = (nm, s2)) (h2 : rNum s2 = (d, s3)) (h3 : 1 < d) : restT n (r, 0) l = (zeroO, 2) := by
  obtain ⟨m, rfl⟩ : ∃ m, n = m + 1 := ⟨n - 1, by omega⟩
  unfold restT
  rw [entsL, if_neg (by simp), h1]
  simp only [h2]
  rw [if_pos h3]
theorem restT_step {n d : Nat} {r nm id : ByteArray} {l : List Ent} {s2 s3 s4 : ByteArray × Int} (hn : 0 < n) (h1 : rTxt (r, 0) = (nm, s2)) (h2 : rNum s2 = (d, s3)) (h3 : ¬ 1 < d) (h4 : rByt s3 32 = (id, s4)) : restT n (r, 0) l = restT (n - 1) s4 (l ++ [⟨nm, decide (d = 1), id⟩]) := by
  obtain ⟨m, rfl⟩ : ∃ m, n = m + 1 := ⟨n - 1, by omega⟩
  unfold restT
  rw [entsL, if_neg (by simp), h1]
  simp only [h2, h4]
  rw [if_neg h3]
  rfl
theorem decodeF_T {s : ByteArray} {st1 st2 : ByteArray × Int} {cn : Nat} (h : ¬ 8192 < s.size) (h1 : rNum (s, 0) = (2, st1)) (h2 : rNum st1 = (cn, st2)) : decodeF s = restT cn st2 [] := by
  unfold decodeF restT
  rw [if_neg h, raw_2 h1]
  unfold rawT
  rw [h2]
  cases hE : entsL cn st2 [] with
  | none => rfl
  | some r => rfl
noncomputable def restC (tr : ByteArray) (n : Nat) (st : ByteArray × Int) (l : List ByteArray) : Obj × Int :=
  endF2 ⟨3, noB, [], tr, (parsL n st l).1, (rTxt (parsL n st l).2).1, (rTxt (rNum (rTxt (parsL n st l).2).2).2).1, ((rNum (rTxt (parsL n st l).2).2).1 : Int), noB⟩ (rTxt (rNum (rTxt (parsL n st l).2).2).2).2
theorem restC_end {n tt : Nat} {tr tw tn r : ByteArray} {e : Int} {l : List ByteArray} {s2 s3 s4 : ByteArray × Int} (h : n = 0 ∨ e ≠ 0) (h1 : rTxt (r, e) = (tw, s2)) (h2 : rNum s2 = (tt, s3)) (h3 : rTxt s3 = (tn, s4)) :
    restC tr n (r, e) l = endF2 ⟨3, noB, [], tr, l, tw, tn, (tt : Int), noB⟩ s4 := by
  have hp : parsL n (r, e) l = (l, (r, e)) := by
    rcases h with rfl | h
    · rfl
    · cases n with
      | zero => rfl
      | succ n => rw [parsL, if_pos h]
  unfold restC
  simp only [hp, h1, h2, h3]
theorem restC_step {n : Nat} {tr r id : ByteArray} {l : List ByteArray} {s2 : ByteArray × Int} (hn : 0 < n) (h1 : rByt (r, 0) 32 = (id, s2)) : restC tr n (r, 0) l = restC tr (n - 1) s2 (l ++ [id]) := by
  obtain ⟨m, rfl⟩ : ∃ m, n = m + 1 := ⟨n - 1, by omega⟩
  have hp : parsL (m + 1) (r, 0) l = parsL (m + 1 - 1) s2 (l ++ [id]) := by rw [parsL, if_neg (by simp), h1]; rfl
  unfold restC
  rw [hp]
theorem decodeF_C {s tr : ByteArray} {st1 st2 st3 : ByteArray × Int} {cn : Nat} (h : ¬ 8192 < s.size) (h1 : rNum (s, 0) = (3, st1)) (h2 : rByt st1 32 = (tr, st2)) (h3 : rNum st2 = (cn, st3)) : decodeF s = restC tr cn st3 [] := by
  rw [decodeF_some h (raw_3 h1)]
  unfold rawC restC
  simp only [h2, h3]
  rfl
theorem rByt_less {s3 s4 : ByteArray × Int} {id : ByteArray} (h : rByt s3 32 = (id, s4)) (h0 : s4.2 = 0) : s4.1.size < s3.1.size := by
  unfold rByt at h
  split at h
  · next hne => cases h; exact absurd h0 hne
  · split at h
    · cases h; cases h0
    · next hz => cases h; simp only [ByteArray.size_extract]; omega
theorem en_cells {w : World} {x : Nat} {a c : ByteArray} {b : Bool} (h : w.heap[x]? = some (.cells #[.string a, .bool b, .string c] 45 (0, 0))) :
    w.cell? ⟨x, 0, none⟩ = some (.string a) ∧ w.cell? ⟨x, 1, none⟩ = some (.bool b) ∧ w.cell? ⟨x, 2, none⟩ = some (.string c) ∧ w.frozen? ⟨x, 0, none⟩ = false ∧ w.frozen? ⟨x, 1, none⟩ = false ∧ w.frozen? ⟨x, 2, none⟩ = false := by
  refine ⟨?_, ?_, ?_, ?_, ?_, ?_⟩ <;> simp [World.cell?, World.frozen?, h]
theorem DecSt.other {w w' : World} {B g q x : Nat} {st : ByteArray × Int} {o : Obj} {ve vp : Value} (h : DecSt w B g q st o ve vp) (hu : Upd (fun k => k = x) w w') (h1 : g ≠ x) (h2 : q ≠ x) (h3 : ∀ k, ve.ownBlock = some k → k ≠ x) (h4 : ∀ k, vp.ownBlock = some k → k ≠ x) (hB : B ≤ x) :
    DecSt w' B g q st o ve vp ∧ Below B w w' :=
  ⟨⟨h.rd.upd hu h1, h.sz, blk_upd h.ob hu h2, owns_upd h.es hu h3, owns_upd h.ps hu h4, h.le.1, h.le.2.1, Nat.le_trans h.le.2.2 hu.size⟩, hu.below h.le.2.2 (fun k hk => by rw [hk]; exact hB)⟩
theorem evs_append (a b : List Ent) : evs (a ++ b) = evs a ++ evs b := by simp [evs]
end Go.Proofs.Ytmjnohblifihmaa
