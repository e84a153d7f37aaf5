/- Objects in plain Lean: what Good, Encode and Decode come to, and their laws. -/
import Derived.Test.YtinhjnbgblieeaaDoorWireRowsLaw
import Derived.Test.YtinhjnbgblieeaaDoorContains
namespace Go.Proofs.YtinhjnbgblieeaaDoor
set_option linter.unusedVariables false
set_option linter.unusedSimpArgs false

structure Ent where
  name : ByteArray
  dir : Bool
  id : ByteArray
structure Obj where
  kind : Int
  data : ByteArray
  ents : List Ent
  tree : ByteArray
  pars : List ByteArray
  who : ByteArray
  note : ByteArray
  time : Int
  target : ByteArray
def noB : ByteArray := ⟨#[]⟩
def zeroO : Obj := ⟨0, noB, [], noB, [], noB, noB, 0, noB⟩
def zeroE : Ent := ⟨noB, false, noB⟩

/-! Good. -/
def badName (c : Nat) : Bool := decide (c ≤ 32) || (decide (126 < c) || decide (c = 47))
def badLine (c : Nat) : Bool := decide (c = 0)
def nameF (s : ByteArray) : Bool := !hasP badName s && (decide (s ≠ noB) && (decide (s.size ≤ 60) && (decide (s ≠ ⟨#[46]⟩) && decide (s ≠ ⟨#[46, 46]⟩))))
def lineF (s : ByteArray) : Bool := decide (s.size ≤ 4096) && !hasP badLine s
structure EmptyO (o : Obj) : Prop where
  data : o.kind = 1 ∨ o.data = noB
  ents : o.kind = 2 ∨ o.ents = []
  com : o.kind = 3 ∨ (o.tree = noB ∧ o.pars = [] ∧ o.time = 0)
  target : o.kind = 4 ∨ o.target = noB
  who : o.kind = 3 ∨ o.kind = 4 ∨ (o.who = noB ∧ o.note = noB)
def entOk (l : List Ent) (k : Nat) : Bool := nameF (l.getD k zeroE).name && (decide ((l.getD k zeroE).id.size = 32) && (decide (k = 0) || Op.bytesLess (l.getD (k - 1) zeroE).name.toList (l.getD k zeroE).name.toList))
def entsF (l : List Ent) : Bool := (List.range l.length).all (entOk l)
def parF (l : List ByteArray) (k : Nat) : Int := if (l.getD k noB).size ≠ 32 then 2 else if (l.take k).any (fun y => decide (y = l.getD k noB)) = true then 8 else 0
def parsFrom (l : List ByteArray) : Nat → Nat → Int
  | _, 0 => 0
  | k, c + 1 => if parF l k ≠ 0 then parF l k else parsFrom l (k + 1) c
def parsF (l : List ByteArray) : Int := parsFrom l 0 l.length
open Classical in
noncomputable def goodF (o : Obj) : Int :=
  if o.kind < 1 ∨ 4 < o.kind then 4
  else if ¬ EmptyO o then 2
  else if 4096 < o.data.size ∨ 4096 < o.who.size ∨ 4096 < o.note.size then 1
  else if 64 < o.ents.length ∨ 4 < o.pars.length then 6
  else if entsF o.ents = false then 2
  else if parsF o.pars ≠ 0 then parsF o.pars
  else if (o.kind = 3 ∧ o.tree.size ≠ 32) ∨ (o.kind = 4 ∧ o.target.size ≠ 32) ∨ lineF o.who = false ∨ lineF o.note = false then 2
  else if o.time < 0 ∨ 1099511627776 ≤ o.time then 3 else 0
structure GoodO (o : Obj) : Prop where
  kind : 1 ≤ o.kind ∧ o.kind ≤ 4
  emp : EmptyO o
  data : o.data.size ≤ 4096
  who : o.who.size ≤ 4096
  note : o.note.size ≤ 4096
  ents : o.ents.length ≤ 64
  pars : o.pars.length ≤ 4
  ent : ∀ x ∈ o.ents, x.name.size ≤ 60 ∧ x.id.size = 32
  par : ∀ x ∈ o.pars, x.size = 32
  tree : o.kind = 3 → o.tree.size = 32
  target : o.kind = 4 → o.target.size = 32
  time : 0 ≤ o.time ∧ o.time < 1099511627776
theorem getD_of {α : Type} (l : List α) (k : Nat) (d : α) (h : k < l.length) : l.getD k d = l[k] := by rw [List.getD, List.getElem?_eq_getElem h]; rfl
theorem entsF_mem {l : List Ent} (h : entsF l = true) : ∀ x ∈ l, x.name.size ≤ 60 ∧ x.id.size = 32 := by
  intro x hx
  obtain ⟨k, hk, rfl⟩ := List.getElem_of_mem hx
  have := List.all_eq_true.1 h k (by simpa using hk)
  unfold entOk at this
  simp only [Bool.and_eq_true, decide_eq_true_eq] at this
  obtain ⟨h1, h2, _⟩ := this
  rw [getD_of _ _ _ hk] at h1 h2
  unfold nameF at h1
  simp only [Bool.and_eq_true, decide_eq_true_eq] at h1
  exact ⟨h1.2.2.1, h2⟩
theorem parsFrom_zero {l : List ByteArray} : ∀ {c k : Nat}, parsFrom l k c = 0 → ∀ j, k ≤ j → j < k + c → parF l j = 0
  | 0, k, _, j, h1, h2 => by omega
  | c + 1, k, h, j, h1, h2 => by
    unfold parsFrom at h
    by_cases h0 : parF l k = 0
    · rw [if_neg (by simpa using h0)] at h
      by_cases hj : j = k
      · rw [hj]; exact h0
      · exact parsFrom_zero h j (by omega) (by omega)
    · rw [if_pos h0] at h; exact absurd h h0
theorem parsF_mem {l : List ByteArray} (h : parsF l = 0) : ∀ x ∈ l, x.size = 32 := by
  intro x hx
  obtain ⟨k, hk, rfl⟩ := List.getElem_of_mem hx
  have := parsFrom_zero h k (Nat.zero_le _) (by omega)
  unfold parF at this
  rw [getD_of _ _ _ hk] at this
  by_cases hs : l[k].size = 32
  · exact hs
  · rw [if_pos hs] at this; cases this
theorem goodF_good {o : Obj} (h : goodF o = 0) : GoodO o := by
  unfold goodF at h
  split at h
  · cases h
  split at h
  · cases h
  split at h
  · cases h
  split at h
  · cases h
  split at h
  · cases h
  split at h
  · rename_i h1; exact absurd h h1
  split at h
  · cases h
  split at h
  · cases h
  rename_i h1 h2 h3 h4 h5 h6 h7 h8
  simp only [not_or, Int.not_lt, Nat.not_lt, Classical.not_not, not_and, Decidable.not_not, ne_eq, Bool.not_eq_false] at h1 h2 h3 h4 h5 h6 h7 h8
  exact ⟨h1, h2, h3.1, h3.2.1, h3.2.2, h4.1, h4.2, entsF_mem h5, parsF_mem h6, h7.1, h7.2.1, by omega⟩

/-! Encode. -/
def encT (s : ByteArray) : List UInt8 := enc s.size ++ s.data.toList
def encE (x : Ent) : List UInt8 := encT x.name ++ (enc (if x.dir then 1 else 0) ++ x.id.data.toList)
def encP (l : List ByteArray) : List UInt8 := l.flatMap fun p => p.data.toList
def encEs (l : List Ent) : List UInt8 := l.flatMap encE
def bodyO (o : Obj) : List UInt8 :=
  if o.kind = 1 then encT o.data
  else if o.kind = 2 then enc o.ents.length ++ encEs o.ents
  else if o.kind = 3 then o.tree.data.toList ++ (enc o.pars.length ++ (encP o.pars ++ (encT o.who ++ (enc o.time.toNat ++ encT o.note))))
  else if o.kind = 4 then o.target.data.toList ++ (encT o.who ++ encT o.note)
  else []
def encO (o : Obj) : List UInt8 := enc o.kind.toNat ++ bodyO o
noncomputable def encodeF (o : Obj) : ByteArray × Int :=
  if goodF o ≠ 0 then (noB, goodF o) else if 8192 < (encO o).length then (noB, 1) else (⟨(encO o).toArray⟩, 0)

/-! Decode. -/
def entsL : Nat → ByteArray × Int → List Ent → Option (List Ent × (ByteArray × Int))
  | 0, st, l => some (l, st)
  | n + 1, st, l => if st.2 ≠ 0 then some (l, st) else
      if 1 < (rNum (rTxt st).2).1 then none
      else entsL n (rByt (rNum (rTxt st).2).2 32).2 (l ++ [⟨(rTxt st).1, decide ((rNum (rTxt st).2).1 = 1), (rByt (rNum (rTxt st).2).2 32).1⟩])
def parsL : Nat → ByteArray × Int → List ByteArray → List ByteArray × (ByteArray × Int)
  | 0, st, l => (l, st)
  | n + 1, st, l => if st.2 ≠ 0 then (l, st) else parsL n (rByt st 32).2 (l ++ [(rByt st 32).1])
def rawB (st : ByteArray × Int) : Obj × (ByteArray × Int) := ({ zeroO with kind := 1, data := (rTxt st).1 }, (rTxt st).2)
def rawT (st : ByteArray × Int) : Option (Obj × (ByteArray × Int)) := (entsL (rNum st).1 (rNum st).2 []).map fun r => ({ zeroO with kind := 2, ents := r.1 }, r.2)
def comS (st : ByteArray × Int) : (ByteArray × (ByteArray × Int)) × (List ByteArray × (ByteArray × Int)) := (rByt st 32, parsL (rNum (rByt st 32).2).1 (rNum (rByt st 32).2).2 [])
def rawC (st : ByteArray × Int) : Obj × (ByteArray × Int) :=
  let a := rByt st 32
  let n := rNum a.2
  let p := parsL n.1 n.2 []
  let w := rTxt p.2
  let t := rNum w.2
  let m := rTxt t.2
  ({ zeroO with kind := 3, tree := a.1, pars := p.1, who := w.1, time := t.1, note := m.1 }, m.2)
def rawG (st : ByteArray × Int) : Obj × (ByteArray × Int) :=
  let a := rByt st 32
  let w := rTxt a.2
  let m := rTxt w.2
  ({ zeroO with kind := 4, target := a.1, who := w.1, note := m.1 }, m.2)
def rawF (s : ByteArray) : Option (Obj × (ByteArray × Int)) :=
  let k := rNum (s, 0)
  if k.1 = 1 then some (rawB k.2)
  else if k.1 = 2 then rawT k.2
  else if k.1 = 3 then some (rawC k.2)
  else if k.1 = 4 then some (rawG k.2)
  else some ({ zeroO with kind := k.1 }, k.2)
noncomputable def endF2 (o : Obj) (st : ByteArray × Int) : Obj × Int :=
  if st.2 ≠ 0 ∨ (1 ≤ o.kind ∧ o.kind ≤ 4 ∧ 0 < st.1.size) then (zeroO, 2) else if goodF o ≠ 0 then (zeroO, goodF o) else (o, 0)
noncomputable def decodeF (s : ByteArray) : Obj × Int :=
  if 8192 < s.size then (zeroO, 1)
  else match rawF s with
    | none => (zeroO, 2)
    | some r => endF2 r.1 r.2

/-! Reading, forward: what was put is read, and what stands behind it is left. -/
theorem rNum_fwd {s : ByteArray} {n : Nat} {y : List UInt8} (h : n < 4611686018427387904) (hs : s.data.toList = enc n ++ y) :
    ∃ s', rNum (s, 0) = (n, (s', 0)) ∧ s'.data.toList = y := by
  obtain ⟨h1, h2, h3⟩ := rNum_back (s := s) (n := (n : Int)) (y := y) (by omega) (by omega) (by simpa using hs)
  have e : (rNum (s, 0)).1 = n := by omega
  exact ⟨(rNum (s, 0)).2.1, Prod.ext e (Prod.ext rfl h2), h3⟩
theorem rTxt_fwd {s t : ByteArray} {y : List UInt8} (h : t.size ≤ 4096) (hs : s.data.toList = encT t ++ y) :
    ∃ s', rTxt (s, 0) = (t, (s', 0)) ∧ s'.data.toList = y := by
  obtain ⟨h1, h2, h3⟩ := rTxt_back (s := s) (t := t) (y := y) h hs
  exact ⟨(rTxt (s, 0)).2.1, Prod.ext h1 (Prod.ext rfl h2), h3⟩
theorem rByt_fwd {s t : ByteArray} {y : List UInt8} (h : t.size = 32) (hs : s.data.toList = t.data.toList ++ y) :
    ∃ s', rByt (s, 0) 32 = (t, (s', 0)) ∧ s'.data.toList = y := by
  have hz : s.size = 32 + y.length := by rw [← toList_length, hs, List.length_append, toList_length, h]
  refine ⟨s.extract 32 s.size, ?_, by rw [toList_drop, hs, List.drop_left' (by rw [toList_length, h])]⟩
  unfold rByt
  rw [if_neg (by simp), if_neg (by simp only; omega)]
  have e : s.extract 0 (32 : Int).toNat = t := by
    apply bs_ext
    rw [toList_take, hs, List.take_left' (by rw [toList_length, h]; rfl)]
  rw [e]; rfl
theorem entsL_fwd : ∀ (l : List Ent) (s : ByteArray) (l0 : List Ent) (y : List UInt8), (∀ x ∈ l, x.name.size ≤ 60 ∧ x.id.size = 32) → s.data.toList = encEs l ++ y →
    ∃ s', entsL l.length (s, 0) l0 = some (l0 ++ l, (s', 0)) ∧ s'.data.toList = y
  | [], s, l0, y, _, hs => ⟨s, by simp [entsL], by simpa [encEs] using hs⟩
  | x :: l, s, l0, y, hx, hs => by
    obtain ⟨hn, hi⟩ := hx x (by simp)
    have e : s.data.toList = encT x.name ++ (enc (if x.dir then 1 else 0) ++ (x.id.data.toList ++ (encEs l ++ y))) := by
      rw [hs]; simp [encEs, encE]
    obtain ⟨s1, h1, e1⟩ := rTxt_fwd (by omega) e
    obtain ⟨s2, h2, e2⟩ := rNum_fwd (by split <;> omega) e1
    obtain ⟨s3, h3, e3⟩ := rByt_fwd hi e2
    obtain ⟨s4, h4, e4⟩ := entsL_fwd l s3 (l0 ++ [x]) y (fun z hz => hx z (by simp [hz])) e3
    refine ⟨s4, ?_, e4⟩
    rw [List.length_cons, entsL, if_neg (by simp), h1]
    simp only
    rw [h2]
    simp only
    rw [h3]
    simp only
    rw [if_neg (by split <;> omega)]
    have hd : decide ((if x.dir = true then 1 else 0) = 1) = x.dir := by cases x.dir <;> rfl
    rw [hd, h4]
    simp
theorem parsL_fwd : ∀ (l : List ByteArray) (s : ByteArray) (l0 : List ByteArray) (y : List UInt8), (∀ x ∈ l, x.size = 32) → s.data.toList = encP l ++ y →
    ∃ s', parsL l.length (s, 0) l0 = (l0 ++ l, (s', 0)) ∧ s'.data.toList = y
  | [], s, l0, y, _, hs => ⟨s, by simp [parsL], by simpa [encP] using hs⟩
  | x :: l, s, l0, y, hx, hs => by
    have e : s.data.toList = x.data.toList ++ (encP l ++ y) := by rw [hs]; simp [encP]
    obtain ⟨s3, h3, e3⟩ := rByt_fwd (hx x (by simp)) e
    obtain ⟨s4, h4, e4⟩ := parsL_fwd l s3 (l0 ++ [x]) y (fun z hz => hx z (by simp [hz])) e3
    refine ⟨s4, ?_, e4⟩
    rw [List.length_cons, parsL, if_neg (by simp), h3]
    simp only
    rw [h4]; simp
theorem raw_fwd {o : Obj} (g : GoodO o) {s : ByteArray} {y : List UInt8} (hs : s.data.toList = encO o ++ y) : ∃ s', rawF s = some (o, (s', 0)) ∧ s'.data.toList = y := by
  obtain ⟨hk1, hk4⟩ := g.kind
  have hgp := g.pars
  have hge := g.ents
  rw [encO, List.append_assoc] at hs
  obtain ⟨s1, h1, e1⟩ := rNum_fwd (by omega) hs
  unfold rawF
  simp only [h1]
  have hE := g.emp
  rcases (by omega : o.kind = 1 ∨ o.kind = 2 ∨ o.kind = 3 ∨ o.kind = 4) with hk | hk | hk | hk
  · simp only [bodyO, hk] at e1
    simp (config := { decide := true }) only [if_true, if_false] at e1
    obtain ⟨s2, h2, e2⟩ := rTxt_fwd g.data e1
    refine ⟨s2, ?_, e2⟩
    rw [hk, if_pos (by rfl), rawB, h2]
    obtain ⟨a1, a2, a3, a4, a5⟩ := hE
    rw [hk] at a1 a2 a3 a4 a5
    simp at a2 a3 a4 a5
    obtain ⟨k, d, en, tr, pa, wh, no, ti, ta⟩ := o
    simp only at *
    obtain ⟨b1, b2, b3⟩ := a3
    obtain ⟨c1, c2⟩ := a5
    subst a2 a4 b1 b2 b3 c1 c2 hk
    rfl
  · simp only [bodyO, hk] at e1
    simp (config := { decide := true }) only [if_true, if_false] at e1
    rw [List.append_assoc] at e1
    obtain ⟨s2, h2, e2⟩ := rNum_fwd (by omega) e1
    obtain ⟨s3, h3, e3⟩ := entsL_fwd o.ents s2 [] y g.ent e2
    refine ⟨s3, ?_, e3⟩
    rw [hk, if_neg (by decide), if_pos (by rfl), rawT, h2]
    simp only
    rw [h3]
    obtain ⟨a1, a2, a3, a4, a5⟩ := hE
    rw [hk] at a1 a2 a3 a4 a5
    simp at a1 a3 a4 a5
    obtain ⟨k, d, en, tr, pa, wh, no, ti, ta⟩ := o
    simp only at *
    obtain ⟨b1, b2, b3⟩ := a3
    obtain ⟨c1, c2⟩ := a5
    subst a1 a4 b1 b2 b3 c1 c2 hk
    rfl
  · simp only [bodyO, hk] at e1
    simp (config := { decide := true }) only [if_true, if_false] at e1
    simp only [List.append_assoc] at e1
    obtain ⟨s2, h2, e2⟩ := rByt_fwd (g.tree hk) e1
    obtain ⟨s3, h3, e3⟩ := rNum_fwd (by omega) e2
    obtain ⟨s4, h4, e4⟩ := parsL_fwd o.pars s3 [] _ g.par e3
    obtain ⟨s5, h5, e5⟩ := rTxt_fwd g.who e4
    obtain ⟨ht0, ht1⟩ := g.time
    obtain ⟨s6, h6, e6⟩ := rNum_fwd (by omega) e5
    obtain ⟨s7, h7, e7⟩ := rTxt_fwd g.note e6
    refine ⟨s7, ?_, e7⟩
    rw [hk, if_neg (by decide), if_neg (by decide), if_pos (by rfl)]
    unfold rawC
    simp only [h2, h3, h4, h5, h6, h7]
    obtain ⟨a1, a2, a3, a4, a5⟩ := hE
    rw [hk] at a1 a2 a3 a4 a5
    simp at a1 a2 a4
    obtain ⟨k, d, en, tr, pa, wh, no, ti, ta⟩ := o
    simp only at *
    subst a1 a2 a4 hk
    have hti : ((ti.toNat : Nat) : Int) = ti := by omega
    simp only [hti, List.nil_append]
    rfl
  · simp only [bodyO, hk] at e1
    simp (config := { decide := true }) only [if_true, if_false] at e1
    simp only [List.append_assoc] at e1
    obtain ⟨s2, h2, e2⟩ := rByt_fwd (g.target hk) e1
    obtain ⟨s3, h3, e3⟩ := rTxt_fwd g.who e2
    obtain ⟨s4, h4, e4⟩ := rTxt_fwd g.note e3
    refine ⟨s4, ?_, e4⟩
    rw [hk, if_neg (by decide), if_neg (by decide), if_neg (by decide), if_pos (by rfl)]
    unfold rawG
    simp only [h2, h3, h4]
    obtain ⟨a1, a2, a3, a4, a5⟩ := hE
    rw [hk] at a1 a2 a3 a4 a5
    simp at a1 a2 a3
    obtain ⟨k, d, en, tr, pa, wh, no, ti, ta⟩ := o
    simp only at *
    obtain ⟨b1, b2, b3⟩ := a3
    subst a1 a2 b1 b2 b3 hk
    rfl

/-! Reading, backward. -/
theorem rNum_ok {st : ByteArray × Int} (h : (rNum st).2.2 = 0) : st.2 = 0 := by
  apply Classical.byContradiction; intro he
  unfold rNum at h; rw [if_pos he] at h; exact he h
theorem rTxt_ok {st : ByteArray × Int} (h : (rTxt st).2.2 = 0) : st.2 = 0 := by
  apply Classical.byContradiction; intro he
  unfold rTxt at h; rw [if_pos he] at h; exact he h
theorem rByt_ok {st : ByteArray × Int} {n : Int} (h : (rByt st n).2.2 = 0) : st.2 = 0 := by
  apply Classical.byContradiction; intro he
  unfold rByt at h; rw [if_pos he] at h; exact he h
theorem rNum_bwd {s : ByteArray} (h : (rNum (s, 0)).2.2 = 0) : s.data.toList = enc (rNum (s, 0)).1 ++ (rNum (s, 0)).2.1.data.toList ∧ (rNum (s, 0)).1 < 4611686018427387904 := by
  unfold rNum at h ⊢
  simp only [ne_eq, not_true_eq_false, if_false] at h ⊢
  cases hg : get s.data.toList with
  | none => rw [hg] at h; simp at h
  | some p =>
    obtain ⟨n, k⟩ := p
    obtain ⟨h1, h2, h3, _⟩ := get_some hg
    simp only
    rw [toList_drop, ← h3, List.take_append_drop]
    exact ⟨rfl, h1⟩
theorem getText_bwd {s : ByteArray} (h : (getText s).2.2 = 0) : s.data.toList = encT (getText s).1 ++ (s.extract (getText s).2.1 s.size).data.toList ∧ (getText s).1.size ≤ 4096 := by
  unfold getText at h ⊢
  cases hg : get s.data.toList with
  | none => rw [hg] at h; simp at h
  | some p =>
    obtain ⟨n, k⟩ := p
    obtain ⟨h1, h2, h3, h4, h5, h6⟩ := get_some hg
    rw [hg] at h
    simp only at h ⊢
    by_cases h7 : 4096 < n
    · rw [if_pos h7] at h; simp at h
    · rw [if_neg h7] at h ⊢
      by_cases h8 : s.size < n + k
      · rw [if_pos h8] at h; simp at h
      · rw [if_neg h8]
        simp only
        have hz : (s.extract k (k + n)).size = n := by rw [ByteArray.size_extract]; omega
        refine ⟨?_, by rw [hz]; omega⟩
        rw [encT, hz, toList_drop, toList_extract, Nat.add_sub_cancel_left, ← h3, List.append_assoc]
        have e : (s.data.toList.drop k).take n ++ s.data.toList.drop (k + n) = s.data.toList.drop k := by
          rw [← List.drop_drop, List.take_append_drop]
        rw [e, List.take_append_drop]
theorem rTxt_bwd {s : ByteArray} (h : (rTxt (s, 0)).2.2 = 0) : s.data.toList = encT (rTxt (s, 0)).1 ++ (rTxt (s, 0)).2.1.data.toList ∧ (rTxt (s, 0)).1.size ≤ 4096 := by
  have h0 : ((getText s).2.2 : Int) = 0 := by
    unfold rTxt at h; rw [if_neg (by simp)] at h; exact h
  have := getText_bwd (s := s) (by omega)
  unfold rTxt
  rw [if_neg (by simp)]
  exact this
theorem rByt_bwd {s : ByteArray} (h : (rByt (s, 0) 32).2.2 = 0) : s.data.toList = (rByt (s, 0) 32).1.data.toList ++ (rByt (s, 0) 32).2.1.data.toList ∧ (rByt (s, 0) 32).1.size = 32 := by
  unfold rByt at h ⊢
  rw [if_neg (by simp)] at h ⊢
  by_cases h1 : (32 : Int) < 0 ∨ (s.size : Int) < 32
  · rw [if_pos h1] at h; simp at h
  · rw [if_neg h1]
    simp only
    refine ⟨?_, ?_⟩
    · rw [toList_take, toList_drop]; exact (List.take_append_drop _ _).symm
    · rw [ByteArray.size_extract]; simp; omega
theorem entsL_ok : ∀ (n : Nat) (st : ByteArray × Int) (l : List Ent) (r : List Ent × (ByteArray × Int)), entsL n st l = some r → r.2.2 = 0 → st.2 = 0
  | 0, st, l, r, h, h0 => by
    simp [entsL] at h; subst h; exact h0
  | n + 1, st, l, r, h, h0 => by
    apply Classical.byContradiction; intro he
    rw [entsL, if_pos he] at h
    injection h with h
    subst h
    exact he h0
theorem parsL_ok : ∀ (n : Nat) (st : ByteArray × Int) (l : List ByteArray), (parsL n st l).2.2 = 0 → st.2 = 0
  | 0, st, l, h0 => h0
  | n + 1, st, l, h0 => by
    apply Classical.byContradiction; intro he
    rw [parsL, if_pos he] at h0
    exact he h0
theorem pair0 {st : ByteArray × Int} (h : st.2 = 0) : st = (st.1, 0) := Prod.ext rfl h
theorem entsL_bwd : ∀ (n : Nat) (s : ByteArray) (l : List Ent) (r : List Ent × (ByteArray × Int)), entsL n (s, 0) l = some r → r.2.2 = 0 → ∃ l2, r.1 = l ++ l2 ∧ l2.length = n ∧ s.data.toList = encEs l2 ++ r.2.1.data.toList
  | 0, s, l, r, h, h0 => by
    simp [entsL] at h; subst h; exact ⟨[], by simp, rfl, by simp [encEs]⟩
  | n + 1, s, l, r, h, h0 => by
    rw [entsL, if_neg (by simp)] at h
    by_cases hd : 1 < (rNum (rTxt (s, 0)).2).1
    · rw [if_pos hd] at h; cases h
    · rw [if_neg hd] at h
      have k3 := entsL_ok n _ _ r h h0
      have k2 := rByt_ok k3
      have k1 := rNum_ok k2
      have b1 := rTxt_bwd k1
      rw [pair0 k1] at k2 k3 h hd
      have b2 := rNum_bwd k2
      rw [pair0 k2] at k3 h
      have b3 := rByt_bwd k3
      rw [pair0 k3] at h
      obtain ⟨l2, e1, e2, e3⟩ := entsL_bwd n _ _ r h h0
      refine ⟨⟨(rTxt (s, 0)).1, decide ((rNum ((rTxt (s, 0)).2.1, 0)).1 = 1), (rByt ((rNum ((rTxt (s, 0)).2.1, 0)).2.1, 0) 32).1⟩ :: l2, by rw [e1]; simp, by rw [List.length_cons, e2], ?_⟩
      have hdd : enc (if decide ((rNum ((rTxt (s, 0)).2.1, 0)).1 = 1) = true then 1 else 0) = enc (rNum ((rTxt (s, 0)).2.1, 0)).1 := by
        rcases (by omega : (rNum ((rTxt (s, 0)).2.1, 0)).1 = 0 ∨ (rNum ((rTxt (s, 0)).2.1, 0)).1 = 1) with e | e <;> rw [e] <;> rfl
      rw [show encEs (⟨(rTxt (s, 0)).1, decide ((rNum ((rTxt (s, 0)).2.1, 0)).1 = 1), (rByt ((rNum ((rTxt (s, 0)).2.1, 0)).2.1, 0) 32).1⟩ :: l2) = encT (rTxt (s, 0)).1 ++ (enc (if decide ((rNum ((rTxt (s, 0)).2.1, 0)).1 = 1) = true then 1 else 0) ++ ((rByt ((rNum ((rTxt (s, 0)).2.1, 0)).2.1, 0) 32).1.data.toList ++ encEs l2)) by simp [encEs, encE]]
      rw [hdd, b1.1, b2.1, b3.1, e3]
      simp only [List.append_assoc]
theorem parsL_bwd : ∀ (n : Nat) (s : ByteArray) (l : List ByteArray), (parsL n (s, 0) l).2.2 = 0 → ∃ l2, (parsL n (s, 0) l).1 = l ++ l2 ∧ l2.length = n ∧ s.data.toList = encP l2 ++ (parsL n (s, 0) l).2.1.data.toList
  | 0, s, l, h0 => ⟨[], by simp [parsL], rfl, by simp [encP, parsL]⟩
  | n + 1, s, l, h0 => by
    rw [parsL, if_neg (by simp)] at h0 ⊢
    have k3 := parsL_ok n _ _ h0
    have b3 := rByt_bwd k3
    rw [pair0 k3] at h0 ⊢
    obtain ⟨l2, e1, e2, e3⟩ := parsL_bwd n _ _ h0
    refine ⟨(rByt (s, 0) 32).1 :: l2, by rw [e1]; simp, by rw [List.length_cons, e2], ?_⟩
    rw [show encP ((rByt (s, 0) 32).1 :: l2) = (rByt (s, 0) 32).1.data.toList ++ encP l2 by simp [encP], b3.1, e3]
    simp only [List.append_assoc]
theorem raw_bwd {s : ByteArray} {o : Obj} {st : ByteArray × Int} (h : rawF s = some (o, st)) (h0 : st.2 = 0) (hk : 1 ≤ o.kind ∧ o.kind ≤ 4) : s.data.toList = encO o ++ st.1.data.toList := by
  unfold rawF at h
  simp only at h
  by_cases k1 : (rNum (s, 0)).1 = 1
  · rw [if_pos k1] at h
    injection h with h
    injection h with h1 h2
    subst h1 h2
    have e1 := rTxt_ok h0
    have b1 := rNum_bwd e1
    rw [pair0 e1] at h0 ⊢
    have b2 := rTxt_bwd h0
    rw [b1.1, k1, encO, bodyO, if_pos (by rfl), b2.1]
    simp only [List.append_assoc]
    rfl
  rw [if_neg k1] at h
  by_cases k2 : (rNum (s, 0)).1 = 2
  · rw [if_pos k2] at h
    unfold rawT at h
    cases hr : entsL (rNum (rNum (s, 0)).2).1 (rNum (rNum (s, 0)).2).2 [] with
    | none => rw [hr] at h; cases h
    | some r =>
      rw [hr] at h
      injection h with h
      injection h with h1 h2
      subst h1 h2
      have e2 := entsL_ok _ _ _ _ hr h0
      have e1 := rNum_ok e2
      have b1 := rNum_bwd e1
      rw [pair0 e1] at e2 hr
      have b2 := rNum_bwd e2
      rw [pair0 e2] at hr
      obtain ⟨l2, c1, c2, c3⟩ := entsL_bwd _ _ _ _ hr h0
      rw [List.nil_append] at c1
      rw [b1.1, k2, b2.1, c3, ← c2, encO, bodyO, if_neg (by simp), if_pos (by rfl), c1]
      simp only [List.append_assoc]
      rfl
  rw [if_neg k2] at h
  by_cases k3 : (rNum (s, 0)).1 = 3
  · rw [if_pos k3] at h
    injection h with h
    unfold rawC at h
    simp only at h
    injection h with h1 h2
    subst h1 h2
    have e6 := rTxt_ok h0
    have e5 := rNum_ok e6
    have e4 := rTxt_ok e5
    have e3 := parsL_ok _ _ _ e4
    have e2 := rNum_ok e3
    have e1 := rByt_ok e2
    have b1 := rNum_bwd e1
    rw [pair0 e1] at e2 e3 e4 e5 e6 h0 ⊢
    have b2 := rByt_bwd e2
    rw [pair0 e2] at e3 e4 e5 e6 h0 ⊢
    have b3 := rNum_bwd e3
    rw [pair0 e3] at e4 e5 e6 h0 ⊢
    obtain ⟨l2, c1, c2, c3⟩ := parsL_bwd _ _ _ e4
    rw [pair0 e4] at e5 e6 h0 ⊢
    have b5 := rTxt_bwd e5
    rw [pair0 e5] at e6 h0 ⊢
    have b6 := rNum_bwd e6
    rw [pair0 e6] at h0 ⊢
    have b7 := rTxt_bwd h0
    rw [List.nil_append] at c1
    rw [b1.1, k3, b2.1, b3.1, c3, b5.1, b6.1, b7.1, encO, bodyO, if_neg (by simp), if_neg (by simp), if_pos (by rfl)]
    simp only [c1, c2, List.append_assoc]
    rfl
  rw [if_neg k3] at h
  by_cases k4 : (rNum (s, 0)).1 = 4
  · rw [if_pos k4] at h
    injection h with h
    unfold rawG at h
    simp only at h
    injection h with h1 h2
    subst h1 h2
    have e3 := rTxt_ok h0
    have e2 := rTxt_ok e3
    have e1 := rByt_ok e2
    have b1 := rNum_bwd e1
    rw [pair0 e1] at e2 e3 h0 ⊢
    have b2 := rByt_bwd e2
    rw [pair0 e2] at e3 h0 ⊢
    have b3 := rTxt_bwd e3
    rw [pair0 e3] at h0 ⊢
    have b4 := rTxt_bwd h0
    rw [b1.1, k4, b2.1, b3.1, b4.1, encO, bodyO, if_neg (by simp), if_neg (by simp), if_neg (by simp), if_pos (by rfl)]
    simp only [List.append_assoc]
    rfl
  · rw [if_neg k4] at h
    injection h with h
    injection h with h1 h2
    subst h1 h2
    exfalso
    simp only at hk
    omega

/-! The laws. -/
theorem decode_ok {s : ByteArray} {o : Obj} (h : decodeF s = (o, 0)) : goodF o = 0 ∧ encO o = s.data.toList ∧ s.size ≤ 8192 := by
  unfold decodeF at h
  by_cases hs : 8192 < s.size
  · rw [if_pos hs] at h; injection h with _ h; cases h
  · rw [if_neg hs] at h
    cases hr : rawF s with
    | none => rw [hr] at h; injection h with _ h; cases h
    | some r =>
      obtain ⟨p, st⟩ := r
      rw [hr] at h
      simp only at h
      unfold endF2 at h
      by_cases h1 : st.2 ≠ 0 ∨ (1 ≤ p.kind ∧ p.kind ≤ 4 ∧ 0 < st.1.size)
      · rw [if_pos h1] at h; injection h with _ h; cases h
      · rw [if_neg h1] at h
        by_cases h2 : goodF p = 0
        · rw [if_neg (by simpa using h2)] at h
          injection h with h
          subst h
          have hg := goodF_good h2
          have h3 : st.2 = 0 := Classical.byContradiction fun hc => h1 (.inl hc)
          have h4 : st.1.size = 0 := Classical.byContradiction fun hc => h1 (.inr ⟨hg.kind.1, hg.kind.2, by omega⟩)
          have hb := raw_bwd hr h3 hg.kind
          have h5 : st.1.data.toList = [] := List.eq_nil_of_length_eq_zero (by rw [toList_length]; exact h4)
          rw [h5, List.append_nil] at hb
          exact ⟨h2, hb.symm, by omega⟩
        · rw [if_pos h2] at h
          injection h with _ h
          exact absurd h h2
theorem decode_bad {s : ByteArray} (h : (decodeF s).2 ≠ 0) : (decodeF s).1 = zeroO := by
  unfold decodeF at h ⊢
  by_cases hs : 8192 < s.size
  · rw [if_pos hs]
  · rw [if_neg hs] at h ⊢
    cases hr : rawF s with
    | none => rfl
    | some r =>
      rw [hr] at h
      simp only at h ⊢
      unfold endF2 at h ⊢
      split
      · rfl
      · rename_i h1
        rw [if_neg h1] at h
        split
        · rfl
        · rename_i h2
          rw [if_neg h2] at h
          exact absurd rfl h
theorem decode_encode {o : Obj} (h : goodF o = 0) (hl : (encO o).length ≤ 8192) : decodeF ⟨(encO o).toArray⟩ = (o, 0) := by
  obtain ⟨s', h1, h2⟩ := raw_fwd (goodF_good h) (s := ⟨(encO o).toArray⟩) (y := []) (by rw [toList_mk, List.append_nil])
  have hz : s'.size = 0 := by rw [← toList_length, h2]; rfl
  unfold decodeF
  rw [if_neg (by rw [← toList_length, toList_mk]; omega), h1]
  simp only
  unfold endF2
  rw [if_neg (by simp only [ne_eq, not_true_eq_false, false_or, not_and]; intros; omega), if_neg (by simpa using h)]
theorem decode_more {o p : Obj} {s : ByteArray} {m : List UInt8} (h : goodF o = 0) (hd : decodeF s = (p, 0)) (hs : s.data.toList = encO o ++ m) : m = [] := by
  obtain ⟨g, e, _⟩ := decode_ok hd
  obtain ⟨s1, h1, h2⟩ := raw_fwd (goodF_good h) hs
  obtain ⟨s2, h3, h4⟩ := raw_fwd (goodF_good g) (s := s) (y := []) (by rw [e, List.append_nil])
  rw [h1] at h3
  injection h3 with h3
  injection h3 with h5 h6
  injection h6 with h6
  rw [← h2, h6, h4]
theorem decode_less {o p : Obj} {t : ByteArray} {m : List UInt8} (h : goodF o = 0) (hd : decodeF t = (p, 0)) (hs : encO o = t.data.toList ++ m) : m = [] := by
  obtain ⟨g, e, _⟩ := decode_ok hd
  obtain ⟨s1, h1, h2⟩ := raw_fwd (goodF_good h) (s := ⟨(encO o).toArray⟩) (y := []) (by rw [toList_mk, List.append_nil])
  obtain ⟨s2, h3, h4⟩ := raw_fwd (goodF_good g) (s := ⟨(encO o).toArray⟩) (y := m) (by rw [toList_mk, hs, e])
  rw [h1] at h3
  injection h3 with h3
  injection h3 with h5 h6
  injection h6 with h6
  rw [← h4, ← h6, h2]
theorem encO_inj {o p : Obj} (h : goodF o = 0) (g : goodF p = 0) (e : encO o = encO p) : o = p := by
  obtain ⟨s1, h1, _⟩ := raw_fwd (goodF_good h) (s := ⟨(encO o).toArray⟩) (y := []) (by rw [toList_mk, List.append_nil])
  obtain ⟨s2, h2, _⟩ := raw_fwd (goodF_good g) (s := ⟨(encO o).toArray⟩) (y := []) (by rw [toList_mk, List.append_nil, e])
  rw [h1] at h2
  injection h2 with h2
  injection h2 with h2
end Go.Proofs.YtinhjnbgblieeaaDoor
