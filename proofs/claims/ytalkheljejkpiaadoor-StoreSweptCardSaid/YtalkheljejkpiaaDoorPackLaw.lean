/- Packs in plain Lean: what Write and Read come to, and that Read tells what Write told. -/
import Derived.Test.YtalkheljejkpiaaDoorBas
import Derived.Test.YtalkheljejkpiaaDoorDlt
import Derived.Test.YtalkheljejkpiaaDoorObA
namespace Go.Proofs.YtalkheljejkpiaaDoor
set_option linter.unusedVariables false
set_option linter.unusedSimpArgs false

/-- How an object is told: whole (0), upon an earlier one (1), upon one outside (2); which one; the text. -/
abbrev Ch := Nat × Nat × ByteArray
def tryE (s : ByteArray) (l : List ByteArray) (deep : List Nat) (i : Nat) (c : Ch) : Ch :=
  if (makeF (l.getD i noB) s).2 = 0 ∧ deep.getD i 0 < 8 ∧ (makeF (l.getD i noB) s).1.size + 2 < c.2.2.size ∧ (makeF (l.getD i noB) s).1.size ≤ 4096 then (1, i, (makeF (l.getD i noB) s).1) else c
def tryO (s : ByteArray) (out : List ByteArray) (i : Nat) (c : Ch) : Ch :=
  if (makeF (out.getD i noB) s).2 = 0 ∧ (makeF (out.getD i noB) s).1.size + 32 < c.2.2.size ∧ (makeF (out.getD i noB) s).1.size ≤ 4096 then (2, i, (makeF (out.getD i noB) s).1) else c
def goT (f : Nat → Ch → Ch) : Nat → Nat → Ch → Ch
  | 0, _, c => c
  | n + 1, i, c => goT f n (i + 1) (f i c)
def bestF (s : ByteArray) (l : List ByteArray) (deep : List Nat) (out : List ByteArray) : Ch :=
  goT (tryO s out) (out.length - (out.length - 10)) (out.length - 10) (goT (tryE s l deep) (l.length - (l.length - 10)) (l.length - 10) (0, 0, s))
/-- What is true of a choice. -/
structure ChOk (s : ByteArray) (l : List ByteArray) (deep : List Nat) (out : List ByteArray) (c : Ch) : Prop where
  kind : c.1 = 0 ∨ c.1 = 1 ∨ c.1 = 2
  size : c.2.2.size ≤ s.size
  zero : c.1 = 0 → c.2.2 = s
  one : c.1 = 1 → c.2.1 < l.length ∧ deep.getD c.2.1 0 < 8 ∧ c.2.2.size + 2 < s.size ∧ c.2.2.size ≤ 4096 ∧ (makeF (l.getD c.2.1 noB) s) = (c.2.2, 0)
  two : c.1 = 2 → c.2.1 < out.length ∧ c.2.2.size + 32 < s.size ∧ c.2.2.size ≤ 4096 ∧ (makeF (out.getD c.2.1 noB) s) = (c.2.2, 0)
theorem tryE_ok {s : ByteArray} {l : List ByteArray} {deep : List Nat} {out : List ByteArray} {i : Nat} {c : Ch} (h : ChOk s l deep out c) (hi : i < l.length) : ChOk s l deep out (tryE s l deep i c) := by
  unfold tryE
  split
  · next hc =>
    have := h.size
    exact ⟨.inr (.inl rfl), by show (makeF (l.getD i noB) s).1.size ≤ _; omega, (fun e => by cases e), fun _ => ⟨hi, hc.2.1, by show (makeF (l.getD i noB) s).1.size + 2 < _; omega, hc.2.2.2, Prod.ext rfl hc.1⟩, (fun e => by cases e)⟩
  · exact h
theorem tryO_ok {s : ByteArray} {l : List ByteArray} {deep : List Nat} {out : List ByteArray} {i : Nat} {c : Ch} (h : ChOk s l deep out c) (hi : i < out.length) : ChOk s l deep out (tryO s out i c) := by
  unfold tryO
  split
  · next hc =>
    have := h.size
    exact ⟨.inr (.inr rfl), by show (makeF (out.getD i noB) s).1.size ≤ _; omega, (fun e => by cases e), (fun e => by cases e), fun _ => ⟨hi, by show (makeF (out.getD i noB) s).1.size + 32 < _; omega, hc.2.2, Prod.ext rfl hc.1⟩⟩
  · exact h
theorem goT_ok {P : Ch → Prop} {f : Nat → Ch → Ch} {m : Nat} (hf : ∀ i c, i < m → P c → P (f i c)) : ∀ (n i : Nat) (c : Ch), i + n ≤ m → P c → P (goT f n i c)
  | 0, _, _, _, h => h
  | n + 1, i, c, hm, h => goT_ok hf n (i + 1) _ (by omega) (hf i c (by omega) h)
theorem bestF_ok (s : ByteArray) (l : List ByteArray) (deep : List Nat) (out : List ByteArray) : ChOk s l deep out (bestF s l deep out) := by
  unfold bestF
  refine goT_ok (m := out.length) (fun i c hi h => tryO_ok h hi) _ _ _ (by omega) ?_
  refine goT_ok (m := l.length) (fun i c hi h => tryE_ok h hi) _ _ _ (by omega) ?_
  exact ⟨.inl rfl, Nat.le_refl _, fun _ => rfl, (fun e => by cases e), (fun e => by cases e)⟩

section
variable (sm : ByteArray → ByteArray)
def encCh (out : List ByteArray) (s : ByteArray) (c : Ch) : List UInt8 :=
  if c.1 = 0 then enc 0 ++ (enc s.size ++ s.data.toList) else if c.1 = 1 then enc 1 ++ (enc c.2.1 ++ encT c.2.2) else enc 2 ++ ((sm (out.getD c.2.1 noB)).data.toList ++ encT c.2.2)
def deepCh (deep : List Nat) (c : Ch) : Nat := if c.1 = 0 then 0 else if c.1 = 1 then deep.getD c.2.1 0 + 1 else 1
/-- What is told of the first n objects, and how deep they stand. -/
def packG (out l : List ByteArray) : Nat → List UInt8 × List Nat
  | 0 => ([80] ++ enc l.length, [])
  | n + 1 => ((packG out l n).1 ++ encCh sm out (l.getD n noB) (bestF (l.getD n noB) (l.take n) (packG out l n).2 out), (packG out l n).2 ++ [deepCh (packG out l n).2 (bestF (l.getD n noB) (l.take n) (packG out l n).2 out)])
def chF (out l : List ByteArray) (n : Nat) : Ch := bestF (l.getD n noB) (l.take n) (packG sm out l n).2 out
theorem packG_succ (out l : List ByteArray) (n : Nat) : packG sm out l (n + 1) = ((packG sm out l n).1 ++ encCh sm out (l.getD n noB) (chF sm out l n), (packG sm out l n).2 ++ [deepCh (packG sm out l n).2 (chF sm out l n)]) := rfl
theorem packG_len (out l : List ByteArray) : ∀ n, (packG sm out l n).2.length = n
  | 0 => rfl
  | n + 1 => by rw [packG_succ, List.length_append, packG_len out l n]; rfl
noncomputable def rowWr (l : List ByteArray) (k : Nat) : Int := if (decodeF (l.getD k noB)).2 ≠ 0 then (decodeF (l.getD k noB)).2 else if hasB (l.take k) (l.getD k noB) = true then 8 else 0
noncomputable def checkWr (l : List ByteArray) : Int := firstE (rowWr l) 0 l.length
def packB (out l : List ByteArray) : ByteArray := ⟨(packG sm out l l.length).1.toArray⟩
noncomputable def writeF (l out : List ByteArray) : ByteArray × Int :=
  if 400 < l.length ∨ 400 < out.length then (noB, 6) else if checkWr l ≠ 0 then (noB, checkWr l) else (packB sm out l ++ sm (packB sm out l), 0)
/-- What has an id outside: the last one. -/
def byF (out : List ByteArray) (id : ByteArray) : Option ByteArray := out.foldl (fun a s => if sm s = id then some s else a) none
theorem byF_snoc (out : List ByteArray) (x id : ByteArray) : byF sm (out ++ [x]) id = if sm x = id then some x else byF sm out id := by simp [byF]
theorem byF_of {out : List ByteArray} {x : ByteArray} (h : x ∈ out) (hu : ∀ y ∈ out, sm y = sm x → y = x) : byF sm out (sm x) = some x := by
  have key : ∀ (m : List ByteArray) (a : Option ByteArray), (∀ y ∈ m, sm y = sm x → y = x) → (x ∈ m ∨ a = some x) → m.foldl (fun a s => if sm s = sm x then some s else a) a = some x := by
    intro m
    induction m with
    | nil => intro a _ h; rcases h with h | h; · cases h
             exact h
    | cons y m ih =>
      intro a hu h
      rw [List.foldl_cons]
      refine ih _ (fun z hz => hu z (by simp [hz])) ?_
      by_cases e : sm y = sm x
      · rw [if_pos e, hu y (by simp) e]; exact .inr rfl
      · rw [if_neg e]
        rcases h with h | h
        · rcases List.mem_cons.1 h with rfl | h
          · exact absurd rfl e
          · exact .inl h
        · exact .inr h
  exact key out none hu (.inl h)
/-- The next object: text, depth, error, and the reader behind it. -/
def oneD (base : ByteArray) (depth : Nat) (st : ByteArray × Int) : (ByteArray × Nat × Int) × (ByteArray × Int) :=
  if (rTxt st).2.2 ≠ 0 then ((noB, 0, 2), st) else if 8 ≤ depth then ((noB, 0, 10), st) else (((applyF base (rTxt st).1).1, depth + 1, (applyF base (rTxt st).1).2), (rTxt st).2)
def oneF (st : ByteArray × Int) (l : List ByteArray) (deep : List Nat) (by_ : ByteArray → Option ByteArray) : (ByteArray × Nat × Int) × (ByteArray × Int) :=
  if (rNum st).2.2 ≠ 0 ∨ 2 < (rNum st).1 then ((noB, 0, 2), st) else
  if (rNum st).1 = 0 then
    (if (rByt (rNum (rNum st).2).2 (rNum (rNum st).2).1).2.2 ≠ 0 then ((noB, 0, 2), st) else (((rByt (rNum (rNum st).2).2 (rNum (rNum st).2).1).1, 0, 0), (rByt (rNum (rNum st).2).2 (rNum (rNum st).2).1).2)) else
  if (rNum st).1 = 1 then
    (if (rNum (rNum st).2).2.2 ≠ 0 then ((noB, 0, 2), st) else if l.length ≤ (rNum (rNum st).2).1 then ((noB, 0, 3), st) else oneD (l.getD (rNum (rNum st).2).1 noB) (deep.getD (rNum (rNum st).2).1 0) (rNum (rNum st).2).2) else
  if (rByt (rNum st).2 32).2.2 ≠ 0 then ((noB, 0, 2), st) else
  match by_ (rByt (rNum st).2 32).1 with
  | none => ((noB, 0, 11), st)
  | some x => oneD x 0 (rByt (rNum st).2 32).2
def endP (l : List ByteArray) (st : ByteArray × Int) : List ByteArray × Int := if 0 < st.1.size then ([], 2) else (l, 0)
noncomputable def readG (by_ : ByteArray → Option ByteArray) : Nat → ByteArray × Int → List ByteArray → List Nat → List ByteArray × Int
  | 0, st, l, _ => endP l st
  | n + 1, st, l, deep =>
    if (oneF st l deep by_).1.2.2 ≠ 0 then ([], (oneF st l deep by_).1.2.2) else
    if (decodeF (oneF st l deep by_).1.1).2 ≠ 0 then ([], (decodeF (oneF st l deep by_).1.1).2) else
    if hasB l (oneF st l deep by_).1.1 = true then ([], 8) else readG by_ n (oneF st l deep by_).2 (l ++ [(oneF st l deep by_).1.1]) (deep ++ [(oneF st l deep by_).1.2.1])
def bodyP (b : ByteArray) : ByteArray × Int := (b.extract 1 (b.size - 32), 0)
noncomputable def readF (b : ByteArray) (out : List ByteArray) : List ByteArray × Int :=
  if b.size < 33 ∨ b.data.toList.getD 0 0 ≠ 80 then ([], 2) else
  if sm (b.extract 0 (b.size - 32)) ≠ b.extract (b.size - 32) b.size then ([], 5) else
  if (rNum (bodyP b)).2.2 ≠ 0 then ([], 2) else if 400 < (rNum (bodyP b)).1 then ([], 6) else readG (byF sm out) (rNum (bodyP b)).1 (rNum (bodyP b)).2 [] []

theorem rByt_fwdN {s t : ByteArray} {y : List UInt8} {n : Nat} (h : t.size = n) (hs : s.data.toList = t.data.toList ++ y) : ∃ s', rByt (s, 0) (n : Int) = (t, (s', 0)) ∧ s'.data.toList = y := by
  have hz : s.size = n + y.length := by rw [← toList_length, hs, List.length_append, toList_length, h]
  refine ⟨s.extract n s.size, ?_, by rw [toList_drop, hs, List.drop_left' (by rw [toList_length, h])]⟩
  unfold rByt
  rw [if_neg (by simp), if_neg (by simp only; omega), Int.toNat_natCast]
  have e : s.extract 0 n = t := by
    apply bs_ext
    rw [toList_take, hs, List.take_left' (by rw [toList_length, h])]
  rw [e]
theorem decode_size {s : ByteArray} (h : (decodeF s).2 = 0) : s.size ≤ 8192 := by
  obtain ⟨_, _, h3⟩ := decode_ok (o := (decodeF s).1) (s := s) (by rw [← h])
  exact h3
theorem make_sizes {a b d : ByteArray} (h : makeF a b = (d, 0)) : a.size ≤ 8192 ∧ d = makeD a b := by
  unfold makeF at h
  split at h
  · next hc => exact ⟨hc.1, (congrArg Prod.fst h).symm⟩
  · injection h with _ h; cases h
/-- One object that was told is read. -/
theorem one_told {l out : List ByteArray} {deep : List Nat} {s r : ByteArray} {c : Ch} {y : List UInt8} {by_ : ByteArray → Option ByteArray} (hsm : ∀ b, (sm b).size = 32) (hc : ChOk s l deep out c) (hs8 : s.size ≤ 8192) (hl : l.length ≤ 400)
    (hr : r.data.toList = encCh sm out s c ++ y) :
    (c.1 ≠ 2 ∨ by_ (sm (out.getD c.2.1 noB)) = some (out.getD c.2.1 noB) → ∃ r', oneF (r, 0) l deep by_ = ((s, deepCh deep c, 0), (r', 0)) ∧ r'.data.toList = y) ∧
    (c.1 = 2 → by_ (sm (out.getD c.2.1 noB)) = none → (oneF (r, 0) l deep by_).1.2.2 = 11) := by
  have hD : ∀ (base : ByteArray) (depth : Nat) (st : ByteArray) (d : ByteArray), base.size ≤ 8192 → depth < 8 → d = makeD base s → d.size ≤ 4096 → st.data.toList = encT d ++ y → ∃ r', oneD base depth (st, 0) = ((s, depth + 1, 0), (r', 0)) ∧ r'.data.toList = y := by
    intro base depth st d hb hd he h4 hst
    obtain ⟨r', e1, e2⟩ := rTxt_fwd h4 hst
    refine ⟨r', ?_, e2⟩
    unfold oneD
    rw [e1]
    dsimp only
    rw [if_neg (by simp), if_neg (by omega), he, apply_back hb hs8]
  rcases hc.kind with k | k | k
  · refine ⟨fun _ => ?_, fun e => by rw [k] at e; cases e⟩
    unfold encCh at hr
    rw [if_pos k] at hr
    obtain ⟨r1, a1, b1⟩ := rNum_fwd (n := 0) (y := enc s.size ++ (s.data.toList ++ y)) (s := r) (by omega) (by rw [hr]; simp)
    obtain ⟨r2, a2, b2⟩ := rNum_fwd (n := s.size) (y := s.data.toList ++ y) (s := r1) (by omega) b1
    obtain ⟨r3, a3, b3⟩ := rByt_fwdN (t := s) (n := s.size) (y := y) (s := r2) rfl b2
    refine ⟨r3, ?_, b3⟩
    unfold oneF
    rw [a1]
    dsimp only
    rw [if_neg (by simp), if_pos rfl, a2]
    dsimp only
    rw [a3]
    dsimp only
    rw [if_neg (by simp)]
    unfold deepCh
    rw [if_pos k]
  · refine ⟨fun _ => ?_, fun e => by rw [k] at e; cases e⟩
    obtain ⟨h1, h2, h3, h4, h5⟩ := hc.one k
    obtain ⟨h6, h7⟩ := make_sizes h5
    unfold encCh at hr
    rw [if_neg (by rw [k]; decide), if_pos k] at hr
    obtain ⟨r1, a1, b1⟩ := rNum_fwd (n := 1) (y := enc c.2.1 ++ (encT c.2.2 ++ y)) (s := r) (by omega) (by rw [hr]; simp)
    obtain ⟨r2, a2, b2⟩ := rNum_fwd (n := c.2.1) (y := encT c.2.2 ++ y) (s := r1) (by omega) b1
    obtain ⟨r3, a3, b3⟩ := hD (l.getD c.2.1 noB) (deep.getD c.2.1 0) r2 c.2.2 h6 h2 h7 h4 b2
    refine ⟨r3, ?_, b3⟩
    unfold oneF
    rw [a1]
    dsimp only
    rw [if_neg (by simp), if_neg (by decide), if_pos rfl, a2]
    dsimp only
    rw [if_neg (by simp), if_neg (by omega), a3]
    unfold deepCh
    rw [if_neg (by rw [k]; decide), if_pos k]
  · obtain ⟨h1, h2, h3, h5⟩ := hc.two k
    obtain ⟨h6, h7⟩ := make_sizes h5
    unfold encCh at hr
    rw [if_neg (by rw [k]; decide), if_neg (by rw [k]; decide)] at hr
    obtain ⟨r1, a1, b1⟩ := rNum_fwd (n := 2) (y := (sm (out.getD c.2.1 noB)).data.toList ++ (encT c.2.2 ++ y)) (s := r) (by omega) (by rw [hr]; simp)
    obtain ⟨r2, a2, b2⟩ := rByt_fwd (t := sm (out.getD c.2.1 noB)) (y := encT c.2.2 ++ y) (s := r1) (hsm _) b1
    have e0 : oneF (r, 0) l deep by_ = match by_ (sm (out.getD c.2.1 noB)) with
      | none => ((noB, 0, 11), (r, 0))
      | some x => oneD x 0 (r2, 0) := by
      unfold oneF
      rw [a1]
      dsimp only
      rw [if_neg (by simp), if_neg (by decide), if_neg (by decide), a2]
      dsimp only
      rw [if_neg (by simp)]
    refine ⟨fun h => ?_, fun _ h => by rw [e0, h]⟩
    obtain ⟨r3, a3, b3⟩ := hD (out.getD c.2.1 noB) 0 r2 c.2.2 h6 (by omega) h7 h3 b2
    refine ⟨r3, ?_, b3⟩
    have hb := h.resolve_left (fun e => e k)
    rw [e0, hb]
    dsimp only
    rw [a3]
    unfold deepCh
    rw [if_neg (by rw [k]; decide), if_neg (by rw [k]; decide)]
end
end Go.Proofs.YtalkheljejkpiaaDoor
