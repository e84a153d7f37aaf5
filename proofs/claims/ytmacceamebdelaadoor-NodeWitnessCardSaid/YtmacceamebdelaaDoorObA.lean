/- Texts put together: Object1 Object2 Object3 Object4. -/
import Derived.Test.YtmacceamebdelaaDoorBas
/-! Object1 -/
namespace Go.Proofs.YtmacceamebdelaaDoor
open Go.RowKit
set_option linter.unusedVariables false
set_option linter.unusedSimpArgs false

theorem toList_eq_iff (s t : ByteArray) : (s.toList = t.toList) ↔ s = t := by
  constructor
  · intro h
    rw [ByteArray.toList_eq, ByteArray.toList_eq] at h
    exact bs_ext h
  · intro h; rw [h]
theorem isEmpty_iff (s : ByteArray) : s.toList.isEmpty = decide (s = noB) := by
  have h := toList_eq_iff s noB
  have e : noB.toList = [] := by rw [ByteArray.toList_eq]; rfl
  rw [e] at h
  rw [Bool.eq_iff_iff, decide_eq_true_eq, List.isEmpty_iff]
  exact h
theorem beq_toList (s t : ByteArray) (l : List UInt8) (h : t.data.toList = l) : (s.toList == l) = decide (s = t) := by
  rw [Bool.eq_iff_iff, decide_eq_true_eq, beq_iff_eq, ← h, ← ByteArray.toList_eq]
  exact toList_eq_iff s t
/-! Objects as values. -/
def objC (o : ObjS) (ve vp : Value) : List Value := [.int .i64 o.kind, .string o.data, ve, .string o.tree, vp, .string o.who, .string o.note, .int .i64 o.time, .string o.target]
def evs (es : List Ent) : List Value := es.flatMap fun x => [.string x.name, .bool x.dir, .string x.id]
theorem evs_length (es : List Ent) : (evs es).length = es.length * 3 := by induction es with
  | nil => rfl
  | cons x l ih => rw [evs, List.flatMap_cons, List.length_append, ← evs, ih]; simp; omega
def rdE (w : World) (v : Value) (es : List Ent) : Prop := rdRow w 3 v es.length (evs es)
end Go.Proofs.YtmacceamebdelaaDoor
/-! Object2 -/
namespace Go.Proofs.YtmacceamebdelaaDoor
open Go.RowKit
set_option linter.unusedVariables false
set_option linter.unusedSimpArgs false

def hasB (ss : List ByteArray) (x : ByteArray) : Bool := ss.any fun y => decide (y = x)
theorem hasB_of {ss : List ByteArray} {x : ByteArray} {k : Nat} (hk : k < ss.length) (h : x = ss.getD k ⟨#[]⟩) : hasB ss x = true := by
  rw [hasB, List.any_eq_true]
  refine ⟨x, ?_, by simp⟩
  rw [h, getD_of _ _ _ hk]; exact List.getElem_mem hk
theorem hasB_none {ss : List ByteArray} {x : ByteArray} (h : ∀ j, j < ss.length → x ≠ ss.getD j ⟨#[]⟩) : hasB ss x = false := by
  cases hb : hasB ss x with
  | false => rfl
  | true =>
    exfalso
    rw [hasB, List.any_eq_true] at hb
    obtain ⟨y, hy, he⟩ := hb
    obtain ⟨k, hk, rfl⟩ := List.getElem_of_mem hy
    simp only [decide_eq_true_eq] at he
    exact h k hk (by rw [getD_of _ _ _ hk, he])
end Go.Proofs.YtmacceamebdelaaDoor
/-! Object3 -/
namespace Go.Proofs.YtmacceamebdelaaDoor
open Go.RowKit
set_option linter.unusedVariables false
set_option linter.unusedSimpArgs false

theorem evs_get (es : List Ent) (k : Nat) (h : k < es.length) : (evs es)[k * 3]? = some (.string (es.getD k zeroE).name) ∧ (evs es)[k * 3 + 1]? = some (.bool (es.getD k zeroE).dir) ∧ (evs es)[k * 3 + 2]? = some (.string (es.getD k zeroE).id) := by
  induction es generalizing k with
  | nil => cases h
  | cons x l ih =>
    cases k with
    | zero => exact ⟨rfl, rfl, rfl⟩
    | succ k =>
      have := ih k (by simpa using h)
      rw [show (k + 1) * 3 = k * 3 + 3 by omega]
      exact this
theorem rdE_at {w : World} {ao : Option Addr} {n cap : Nat} {es : List Ent} (hr : rdRow w 3 (.slice ao n cap) es.length (evs es)) (h : 0 < es.length) :
    ∃ b off, ao = some ⟨b, off, none⟩ ∧ b < w.heap.size ∧ ∀ k, k < es.length → w.cell? ⟨b, off + k * 3, none⟩ = some (.string (es.getD k zeroE).name) ∧ w.cell? ⟨b, off + k * 3 + 1, none⟩ = some (.bool (es.getD k zeroE).dir) ∧ w.cell? ⟨b, off + k * 3 + 2, none⟩ = some (.string (es.getD k zeroE).id) := by
  obtain ⟨b, off, cap', hv, hc0, hb⟩ := rd_cell hr 0 _ (by have := (evs_get es 0 h).1; simpa using this)
  injection hv with h1 h2 h3
  subst h1
  refine ⟨b, off, rfl, hb, fun k hk => ?_⟩
  obtain ⟨_, ao2, cap2, hv2, _, _, _, hc⟩ := hr
  injection hv2 with g1 g2 g3
  subst g1
  obtain ⟨e0, e1, e2⟩ := evs_get es k hk
  have c0 := hc _ rfl _ _ e0
  have c1 := hc _ rfl _ _ e1
  have c2 := hc _ rfl _ _ e2
  rw [add_none rfl] at c0 c1 c2
  exact ⟨c0, by rw [Nat.add_assoc]; exact c1, by rw [Nat.add_assoc]; exact c2⟩
theorem entsF_bad {l : List Ent} {k : Nat} (hk : k < l.length) (h : entOk l k = false) : entsF l = false := by
  cases he : entsF l with
  | false => rfl
  | true =>
    have := List.all_eq_true.1 he k (by simpa using hk)
    rw [h] at this; cases this
theorem entsF_good {l : List Ent} (h : ∀ j, j < l.length → entOk l j = true) : entsF l = true := by
  rw [entsF, List.all_eq_true]
  intro j hj
  exact h j (by simpa using hj)
theorem parsFrom_first {l : List ByteArray} {k : Nat} (h0 : parF l k ≠ 0) : ∀ {c k0 : Nat}, k0 ≤ k → k < k0 + c → (∀ j, k0 ≤ j → j < k → parF l j = 0) → parsFrom l k0 c = parF l k
  | 0, k0, h1, h2, _ => by omega
  | c + 1, k0, h1, h2, h => by
    unfold parsFrom
    by_cases hk : k0 = k
    · subst hk; rw [if_pos h0]
    · rw [if_neg (fun hc => hc (h k0 (Nat.le_refl _) (by omega)))]
      exact parsFrom_first h0 (by omega) (by omega) (fun j g1 g2 => h j (by omega) g2)
theorem parsF_first {l : List ByteArray} {k : Nat} (hk : k < l.length) (h : ∀ j, j < k → parF l j = 0) (h0 : parF l k ≠ 0) : parsF l = parF l k :=
  parsFrom_first h0 (Nat.zero_le _) (by omega) (fun j _ hj => h j hj)
theorem parsFrom_all {l : List ByteArray} : ∀ {c k0 : Nat}, (∀ j, k0 ≤ j → j < k0 + c → parF l j = 0) → parsFrom l k0 c = 0
  | 0, k0, _ => rfl
  | c + 1, k0, h => by
    unfold parsFrom
    rw [if_neg (fun hc => hc (h k0 (Nat.le_refl _) (by omega)))]
    exact parsFrom_all (fun j g1 g2 => h j (by omega) (by omega))
theorem parsF_all {l : List ByteArray} (h : ∀ j, j < l.length → parF l j = 0) : parsF l = 0 := parsFrom_all (fun j _ hj => h j (by omega))
theorem goodF_1 {o : ObjS} (h1 : o.kind < 1 ∨ 4 < o.kind) : goodF o = 4 := by unfold goodF; rw [if_pos h1]
theorem goodF_2 {o : ObjS} (h1 : ¬ (o.kind < 1 ∨ 4 < o.kind)) (h2 : ¬ EmptyO o) : goodF o = 2 := by unfold goodF; rw [if_neg h1, if_pos h2]
theorem goodF_3 {o : ObjS} (h1 : ¬ (o.kind < 1 ∨ 4 < o.kind)) (h2 : EmptyO o) (h3 : 4096 < o.data.size ∨ 4096 < o.who.size ∨ 4096 < o.note.size) : goodF o = 1 := by
  unfold goodF; rw [if_neg h1, if_neg (fun h => h h2), if_pos h3]
theorem goodF_4 {o : ObjS} (h1 : ¬ (o.kind < 1 ∨ 4 < o.kind)) (h2 : EmptyO o) (h3 : ¬ (4096 < o.data.size ∨ 4096 < o.who.size ∨ 4096 < o.note.size)) (h4 : 64 < o.ents.length ∨ 4 < o.pars.length) : goodF o = 6 := by
  unfold goodF; rw [if_neg h1, if_neg (fun h => h h2), if_neg h3, if_pos h4]
theorem goodF_5 {o : ObjS} (h1 : ¬ (o.kind < 1 ∨ 4 < o.kind)) (h2 : EmptyO o) (h3 : ¬ (4096 < o.data.size ∨ 4096 < o.who.size ∨ 4096 < o.note.size)) (h4 : ¬ (64 < o.ents.length ∨ 4 < o.pars.length)) (h5 : entsF o.ents = false) : goodF o = 2 := by
  unfold goodF; rw [if_neg h1, if_neg (fun h => h h2), if_neg h3, if_neg h4, if_pos h5]
theorem goodF_6 {o : ObjS} (h1 : ¬ (o.kind < 1 ∨ 4 < o.kind)) (h2 : EmptyO o) (h3 : ¬ (4096 < o.data.size ∨ 4096 < o.who.size ∨ 4096 < o.note.size)) (h4 : ¬ (64 < o.ents.length ∨ 4 < o.pars.length)) (h5 : entsF o.ents = true) (h6 : parsF o.pars ≠ 0) : goodF o = parsF o.pars := by
  unfold goodF; rw [if_neg h1, if_neg (fun h => h h2), if_neg h3, if_neg h4, if_neg (by rw [h5]; simp), if_pos h6]
theorem goodF_7 {o : ObjS} (h1 : ¬ (o.kind < 1 ∨ 4 < o.kind)) (h2 : EmptyO o) (h3 : ¬ (4096 < o.data.size ∨ 4096 < o.who.size ∨ 4096 < o.note.size)) (h4 : ¬ (64 < o.ents.length ∨ 4 < o.pars.length)) (h5 : entsF o.ents = true) (h6 : parsF o.pars = 0)
    (h7 : (o.kind = 3 ∧ o.tree.size ≠ 32) ∨ (o.kind = 4 ∧ o.target.size ≠ 32) ∨ lineF o.who = false ∨ lineF o.note = false) : goodF o = 2 := by
  unfold goodF; rw [if_neg h1, if_neg (fun h => h h2), if_neg h3, if_neg h4, if_neg (by rw [h5]; simp), if_neg (fun h => h h6), if_pos h7]
theorem goodF_8 {o : ObjS} (h1 : ¬ (o.kind < 1 ∨ 4 < o.kind)) (h2 : EmptyO o) (h3 : ¬ (4096 < o.data.size ∨ 4096 < o.who.size ∨ 4096 < o.note.size)) (h4 : ¬ (64 < o.ents.length ∨ 4 < o.pars.length)) (h5 : entsF o.ents = true) (h6 : parsF o.pars = 0)
    (h7 : ¬ ((o.kind = 3 ∧ o.tree.size ≠ 32) ∨ (o.kind = 4 ∧ o.target.size ≠ 32) ∨ lineF o.who = false ∨ lineF o.note = false)) : goodF o = if o.time < 0 ∨ 1099511627776 ≤ o.time then 3 else 0 := by
  unfold goodF; rw [if_neg h1, if_neg (fun h => h h2), if_neg h3, if_neg h4, if_neg (by rw [h5]; simp), if_neg (fun h => h h6), if_neg h7]
end Go.Proofs.YtmacceamebdelaaDoor
/-! Object4 -/
namespace Go.Proofs.YtmacceamebdelaaDoor
open Go.RowKit
set_option linter.unusedVariables false
set_option linter.unusedSimpArgs false

theorem encodeF_1 {o : ObjS} (h : goodF o ≠ 0) : encodeF o = (noB, goodF o) := by unfold encodeF; rw [if_pos h]
theorem encodeF_2 {o : ObjS} (h : goodF o = 0) (h2 : 8192 < (encO o).length) : encodeF o = (noB, 1) := by unfold encodeF; rw [if_neg (fun hc => hc h), if_pos h2]
theorem encodeF_3 {o : ObjS} (h : goodF o = 0) (h2 : ¬ 8192 < (encO o).length) : encodeF o = (⟨(encO o).toArray⟩, 0) := by unfold encodeF; rw [if_neg (fun hc => hc h), if_neg h2]
theorem encEs_length {l : List Ent} (h : ∀ x ∈ l, x.name.size ≤ 60 ∧ x.id.size = 32) : (encEs l).length ≤ l.length * 110 := by
  induction l with
  | nil => simp [encEs]
  | cons x l ih =>
    have h1 := ih (fun y hy => h y (by simp [hy]))
    obtain ⟨h2, h3⟩ := h x (by simp)
    have h4 := enc9 (n := x.name.size) (by omega)
    have h5 := enc9 (n := if x.dir then 1 else 0) (by split <;> omega)
    rw [show encEs (x :: l) = encE x ++ encEs l by simp [encEs], List.length_append, encE, encT]
    simp only [List.length_append, toList_length, List.length_cons]
    omega
theorem encP_length {l : List ByteArray} (h : ∀ x ∈ l, x.size = 32) : (encP l).length ≤ l.length * 32 := by
  induction l with
  | nil => simp [encP]
  | cons x l ih =>
    have h1 := ih (fun y hy => h y (by simp [hy]))
    have h2 := h x (by simp)
    rw [show encP (x :: l) = x.data.toList ++ encP l by simp [encP], List.length_append, toList_length, List.length_cons]
    omega
theorem encO_length {o : ObjS} (g : GoodO o) : (encO o).length ≤ 50000 := by
  obtain ⟨k1, k4⟩ := g.kind
  have h0 := enc9 (n := o.kind.toNat) (by omega)
  have h1 := encT_length g.data
  have h2 := encT_length g.who
  have h3 := encT_length g.note
  have h4 := encEs_length g.ent
  have h5 := encP_length g.par
  have h6 := g.ents
  have h7 := g.pars
  have h8 := enc9 (n := o.ents.length) (by omega)
  have h9 := enc9 (n := o.pars.length) (by omega)
  have h10 := enc9 (n := o.time.toNat) (by have := g.time; omega)
  rw [encO, List.length_append]
  unfold bodyO
  split
  · omega
  · split
    · rw [List.length_append]; omega
    · split
      · rename_i hk
        have := g.tree hk
        simp only [List.length_append, toList_length]; omega
      · split
        · rename_i hk
          have := g.target hk
          simp only [List.length_append, toList_length]; omega
        · simp; omega
end Go.Proofs.YtmacceamebdelaaDoor
