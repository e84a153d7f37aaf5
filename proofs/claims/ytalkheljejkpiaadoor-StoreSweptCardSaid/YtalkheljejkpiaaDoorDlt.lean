/- Texts put together: DeltaLaw Delta1 Delta2 Delta3 Delta4. -/
import Derived.Test.YtalkheljejkpiaaDoorBas
import Derived.Maps.OwnSet
import Derived.Maps.OwnOps
/-! DeltaLaw -/
namespace Go.Proofs.YtalkheljejkpiaaDoor
set_option linter.unusedVariables false

def cutL (s : ByteArray) (i j : Nat) : List UInt8 := (s.data.toList.drop i).take (j - i)
theorem cutL_extract (s : ByteArray) (i j : Nat) : (s.extract i j).data.toList = cutL s i j := toList_extract s i j
theorem cutL_length {s : ByteArray} {i j : Nat} (h : i ≤ j) (hj : j ≤ s.size) : (cutL s i j).length = j - i := by
  rw [cutL, List.length_take, List.length_drop, toList_length]; omega
theorem cutL_all (s : ByteArray) : cutL s 0 s.size = s.data.toList := by
  rw [cutL, List.drop_zero, List.take_of_length_le]; rw [toList_length]; omega
theorem cutL_same (s : ByteArray) (i : Nat) : cutL s i i = [] := by rw [cutL, Nat.sub_self, List.take_zero]
theorem cutL_join {s : ByteArray} {i j k : Nat} (h : i ≤ j) (h2 : j ≤ k) : cutL s i j ++ cutL s j k = cutL s i k := by
  unfold cutL
  have e : k - i = (j - i) + (k - j) := by omega
  have e2 : s.data.toList.drop j = (s.data.toList.drop i).drop (j - i) := by rw [List.drop_drop]; congr 1; omega
  rw [e, List.take_add, e2]

/-! How many bytes two texts begin with alike. -/
def sameL : List UInt8 → List UInt8 → Nat
  | a :: x, b :: y => if a = b then sameL x y + 1 else 0
  | _, _ => 0
theorem sameL_le : ∀ (x y : List UInt8), sameL x y ≤ x.length ∧ sameL x y ≤ y.length
  | [], y => by simp [sameL]
  | a :: x, [] => by simp [sameL]
  | a :: x, b :: y => by
    have := sameL_le x y
    unfold sameL
    split
    · simp; omega
    · simp
theorem sameL_take : ∀ (x y : List UInt8), x.take (sameL x y) = y.take (sameL x y)
  | [], y => by simp [sameL]
  | a :: x, [] => by simp [sameL]
  | a :: x, b :: y => by
    have := sameL_take x y
    unfold sameL
    split
    · rename_i h; subst h; simp [this]
    · simp
theorem sameL_pre : ∀ (x y : List UInt8), sameL x (x ++ y) = x.length
  | [], y => by simp [sameL]
  | a :: x, y => by simp [sameL, sameL_pre x y]
theorem sameL_step {x y : List UInt8} {n : Nat} (hx : n < x.length) (hy : n < y.length) :
    sameL (x.drop n) (y.drop n) = if x[n] = y[n] then sameL (x.drop (n + 1)) (y.drop (n + 1)) + 1 else 0 := by
  rw [List.drop_eq_getElem_cons hx, List.drop_eq_getElem_cons hy, sameL]
theorem sameL_end {x y : List UInt8} {n : Nat} (h : x.length ≤ n ∨ y.length ≤ n) : sameL (x.drop n) (y.drop n) = 0 := by
  have := sameL_le (x.drop n) (y.drop n)
  rw [List.length_drop, List.length_drop] at this
  omega

/-! Where eight bytes stand first. -/
def findFrom (base key : ByteArray) : Nat → Nat → Option Nat
  | _, 0 => none
  | i, c + 1 => if base.extract i (i + 8) = key then some i else findFrom base key (i + 1) c
theorem findFrom_some {base key : ByteArray} : ∀ {c i k : Nat}, findFrom base key i c = some k → i ≤ k ∧ k < i + c
  | 0, i, k, h => by simp [findFrom] at h
  | c + 1, i, k, h => by
    unfold findFrom at h
    split at h
    · injection h with h; omega
    · have := findFrom_some h; omega
def findF (base key : ByteArray) : Option Nat := findFrom base key 0 (base.size - 7)
theorem findF_some {base key : ByteArray} {k : Nat} (h : findF base key = some k) : k + 8 ≤ base.size := by
  have := findFrom_some h; omega
def matchF (base target : ByteArray) (i : Nat) : Option (Nat × Nat) :=
  match findF base (target.extract i (i + 8)) with
  | none => none
  | some k => if sameL (base.data.toList.drop k) (target.data.toList.drop i) < 12 then none else some (k, sameL (base.data.toList.drop k) (target.data.toList.drop i))
theorem matchF_some {base target : ByteArray} {i k n : Nat} (h : matchF base target i = some (k, n)) :
    12 ≤ n ∧ n ≤ target.size - i ∧ k + n ≤ base.size ∧ cutL base k (k + n) = cutL target i (i + n) := by
  unfold matchF at h
  split at h
  · cases h
  · rename_i k' hk
    have hk8 := findF_some hk
    split at h
    · cases h
    · injection h with h
      injection h with h1 h2
      subst h1 h2
      have hl := sameL_le (base.data.toList.drop k') (target.data.toList.drop i)
      rw [List.length_drop, List.length_drop, toList_length, toList_length] at hl
      have ht := sameL_take (base.data.toList.drop k') (target.data.toList.drop i)
      refine ⟨by omega, hl.2, by omega, ?_⟩
      unfold cutL
      rw [Nat.add_sub_cancel_left, Nat.add_sub_cancel_left]
      exact ht

/-! What Make writes. -/
def insB (target : ByteArray) (fr to : Nat) : List UInt8 := if fr < to then enc (2 * (to - fr)) ++ cutL target fr to else []
def makeL (base target : ByteArray) (i fr : Nat) : List UInt8 :=
  if h : i + 8 ≤ target.size then
    match matchF base target i with
    | none => makeL base target (i + 1) fr
    | some p => if h2 : 12 ≤ p.2 then insB target fr i ++ (enc (2 * p.2 + 1) ++ (enc p.1 ++ makeL base target (i + p.2) (i + p.2))) else []
  else insB target fr target.size
termination_by target.size - i
decreasing_by all_goals omega
theorem makeL_end {base target : ByteArray} {i fr : Nat} (h : ¬ i + 8 ≤ target.size) : makeL base target i fr = insB target fr target.size := by
  rw [makeL, dif_neg h]
theorem makeL_none {base target : ByteArray} {i fr : Nat} (h : i + 8 ≤ target.size) (hm : matchF base target i = none) : makeL base target i fr = makeL base target (i + 1) fr := by
  rw [makeL, dif_pos h, hm]
theorem makeL_some {base target : ByteArray} {i fr k n : Nat} (h : i + 8 ≤ target.size) (hm : matchF base target i = some (k, n)) :
    makeL base target i fr = insB target fr i ++ (enc (2 * n + 1) ++ (enc k ++ makeL base target (i + n) (i + n))) := by
  have h12 := (matchF_some hm).1
  rw [makeL, dif_pos h, hm]
  simp only
  rw [dif_pos h12]
def makeD (base target : ByteArray) : ByteArray := ⟨(enc base.size ++ (enc target.size ++ makeL base target 0 0)).toArray⟩
def makeF (base target : ByteArray) : ByteArray × Int :=
  if base.size ≤ 8192 ∧ target.size ≤ 8192 then (makeD base target, 0) else (⟨#[]⟩, 1)

/-! How long that is. -/
theorem enc3 {n : Nat} (h : n ≤ 16385) : (enc n).length ≤ 3 := enc_len n 2 (by omega)
theorem enc2 {n : Nat} (h : n ≤ 8192) : (enc n).length ≤ 2 := enc_len n 1 (by omega)
theorem insB_length {target : ByteArray} {fr to : Nat} (h : fr ≤ to) (ht : to ≤ target.size) (h8 : target.size ≤ 8192) : (insB target fr to).length ≤ to - fr + 3 := by
  unfold insB
  split
  · rw [List.length_append, cutL_length h ht]
    have := enc3 (n := 2 * (to - fr)) (by omega)
    omega
  · simp
theorem makeL_length {base target : ByteArray} (hb : base.size ≤ 8192) (ht : target.size ≤ 8192) :
    ∀ (d i fr : Nat), target.size - i ≤ d → fr ≤ i → i ≤ target.size → (makeL base target i fr).length ≤ target.size - fr + 3 := by
  intro d
  induction d with
  | zero =>
    intro i fr hd hf hi
    rw [makeL_end (by omega)]
    exact insB_length (by omega) (Nat.le_refl _) ht
  | succ d ih =>
    intro i fr hd hf hi
    by_cases h : i + 8 ≤ target.size
    · cases hm : matchF base target i with
      | none =>
        rw [makeL_none h hm]
        exact ih (i + 1) fr (by omega) (by omega) (by omega)
      | some p =>
        obtain ⟨k, n⟩ := p
        obtain ⟨h12, hn, hk, _⟩ := matchF_some hm
        have h1 := insB_length (target := target) hf hi ht
        have h2 := enc3 (n := 2 * n + 1) (by omega)
        have h3 := enc2 (n := k) (by omega)
        have h4 := ih (i + n) (i + n) (by omega) (Nat.le_refl _) (by omega)
        rw [makeL_some h hm]
        simp only [List.length_append]
        omega
    · rw [makeL_end h]
      exact insB_length (by omega) (Nat.le_refl _) ht
theorem makeD_size (base target : ByteArray) : (makeD base target).size = (enc base.size).length + ((enc target.size).length + (makeL base target 0 0).length) := by
  rw [← toList_length, makeD, toList_mk]; simp
theorem makeD_le {base target : ByteArray} (hb : base.size ≤ 8192) (ht : target.size ≤ 8192) : (makeD base target).size ≤ target.size + 8 := by
  rw [makeD_size]
  have h1 := enc2 hb
  have h2 := enc2 ht
  have h3 := makeL_length hb ht target.size 0 0 (by omega) (by omega) (by omega)
  omega
theorem match_pre {base more : ByteArray} (h : 16 ≤ base.size) : matchF base (base ++ more) 0 = some (0, base.size) := by
  have hw : base.extract 0 (0 + 8) = (base ++ more).extract 0 (0 + 8) := by
    apply bs_ext
    rw [cutL_extract, cutL_extract, cutL, cutL, toList_append]
    simp only [Nat.zero_add, List.drop_zero, Nat.sub_zero]
    rw [List.take_append_of_le_length (by rw [toList_length]; omega)]
  have hf : findF base ((base ++ more).extract 0 (0 + 8)) = some 0 := by
    unfold findF
    obtain ⟨c, hc⟩ : ∃ c, base.size - 7 = c + 1 := ⟨base.size - 8, by omega⟩
    rw [hc, findFrom, if_pos hw]
  unfold matchF
  rw [hf]
  simp only [List.drop_zero]
  rw [toList_append, sameL_pre, toList_length, if_neg (by omega)]
theorem makeD_pre {base more : ByteArray} (h : 16 ≤ base.size) (hs : base.size + more.size ≤ 8192) : (makeD base (base ++ more)).size ≤ more.size + 20 := by
  have hz : (base ++ more).size = base.size + more.size := ByteArray.size_append
  rw [makeD_size, makeL_some (k := 0) (n := base.size) (by omega) (match_pre h)]
  simp only [List.length_append, Nat.zero_add]
  have h1 := enc2 (n := base.size) (by omega)
  have h2 := enc2 (n := (base ++ more).size) (by omega)
  have h3 := enc3 (n := 2 * base.size + 1) (by omega)
  have h4 : (enc 0).length = 1 := by rw [enc_small 0 (by omega)]; rfl
  have h5 := makeL_length (base := base) (target := base ++ more) (by omega) (by omega) (base ++ more).size base.size base.size (by omega) (Nat.le_refl _) (by omega)
  have h6 : (insB (base ++ more) 0 0).length = 0 := by simp [insB]
  omega

/-! What Apply comes to. -/
def endS (will n : Nat) (st : ByteArray × Int) (l : List UInt8) : (ByteArray × Int) ⊕ (ByteArray × List UInt8) :=
  if st.2 ≠ 0 ∨ n = 0 ∨ will < n ∨ will < l.length then .inl (⟨#[]⟩, 2) else .inr (st.1, l)
def stepF (base : ByteArray) (will : Nat) (st : ByteArray) (l : List UInt8) : (ByteArray × Int) ⊕ (ByteArray × List UInt8) :=
  if (rNum (st, 0)).1 % 2 = 0 then
    endS will ((rNum (st, 0)).1 / 2) (rByt (rNum (st, 0)).2 (((rNum (st, 0)).1 / 2 : Nat) : Int)).2 (l ++ (rByt (rNum (st, 0)).2 (((rNum (st, 0)).1 / 2 : Nat) : Int)).1.data.toList)
  else
    if (rNum (rNum (st, 0)).2).2.2 = 0 ∧ (base.size < (rNum (rNum (st, 0)).2).1 ∨ base.size - (rNum (rNum (st, 0)).2).1 < (rNum (st, 0)).1 / 2) then .inl (⟨#[]⟩, 3)
    else endS will ((rNum (st, 0)).1 / 2) (rNum (rNum (st, 0)).2).2
      (if (rNum (rNum (st, 0)).2).2.2 = 0 ∧ (rNum (st, 0)).1 / 2 ≤ will then l ++ cutL base (rNum (rNum (st, 0)).2).1 ((rNum (rNum (st, 0)).2).1 + (rNum (st, 0)).1 / 2) else l)
theorem rNum_err {x : ByteArray × Int} (h : x.2 ≠ 0) : rNum x = (0, x) := by unfold rNum; rw [if_pos h]
theorem rNum_lt {s : ByteArray} (h : (rNum (s, 0)).2.2 = 0) : (rNum (s, 0)).2.1.size < s.size := by
  unfold rNum at h ⊢
  simp only [ne_eq, not_true_eq_false, if_false] at h ⊢
  cases hg : get s.data.toList with
  | none => rw [hg] at h; simp at h
  | some p =>
    obtain ⟨n, k⟩ := p
    have := get_some hg
    simp only [ByteArray.size_extract]
    rw [toList_length] at this
    omega
theorem rNum_leD (x : ByteArray × Int) : (rNum x).2.1.size ≤ x.1.size := by
  unfold rNum
  split
  · exact Nat.le_refl _
  · cases hg : get x.1.data.toList with
    | none => exact Nat.le_refl _
    | some p => simp only [ByteArray.size_extract]; omega
theorem rByt_leD (x : ByteArray × Int) (n : Int) : (rByt x n).2.1.size ≤ x.1.size := by
  unfold rByt
  split
  · exact Nat.le_refl _
  · split
    · exact Nat.le_refl _
    · simp only [ByteArray.size_extract]; omega
theorem rByt_err {x : ByteArray × Int} (n : Int) (h : x.2 ≠ 0) : rByt x n = (⟨#[]⟩, x) := by unfold rByt; rw [if_pos h]
theorem endS_inr {will n : Nat} {st : ByteArray × Int} {l : List UInt8} {p : ByteArray × List UInt8} (h : endS will n st l = .inr p) : st.2 = 0 ∧ p = (st.1, l) ∧ n ≠ 0 ∧ n ≤ will ∧ l.length ≤ will := by
  unfold endS at h
  split at h
  · cases h
  · injection h with h
    refine ⟨?_, h.symm, ?_, ?_, ?_⟩ <;> rename_i hh <;> simp only [not_or, ne_eq, Decidable.not_not] at hh <;> omega
theorem stepF_inr {base : ByteArray} {will : Nat} {st : ByteArray} {l : List UInt8} {p : ByteArray × List UInt8} (h : stepF base will st l = .inr p) : p.1.size < st.size ∧ p.2.length ≤ will := by
  by_cases he : (rNum (st, 0)).2.2 = 0
  · have hlt := rNum_lt he
    unfold stepF at h
    split at h
    · obtain ⟨_, rfl, _, _, hl⟩ := endS_inr h
      exact ⟨Nat.lt_of_le_of_lt (rByt_leD _ _) hlt, hl⟩
    · split at h
      · cases h
      · obtain ⟨_, rfl, _, _, hl⟩ := endS_inr h
        exact ⟨Nat.lt_of_le_of_lt (rNum_leD _) hlt, hl⟩
  · exfalso
    unfold stepF at h
    split at h
    · obtain ⟨h0, _⟩ := endS_inr h
      rw [rByt_err _ he] at h0; exact he h0
    · split at h
      · cases h
      · obtain ⟨h0, _⟩ := endS_inr h
        rw [rNum_err he] at h0; exact he h0
def applyL (base : ByteArray) (will : Nat) (st : ByteArray) (l : List UInt8) : ByteArray × Int :=
  if 0 < st.size then
    match stepF base will st l with
    | .inl r => r
    | .inr p => if h : p.1.size < st.size then applyL base will p.1 p.2 else (⟨#[]⟩, 0)
  else if l.length = will then (⟨l.toArray⟩, 0) else (⟨#[]⟩, 2)
termination_by st.size
theorem applyL_end {base : ByteArray} {will : Nat} {st : ByteArray} {l : List UInt8} (h : st.size = 0) : applyL base will st l = if l.length = will then (⟨l.toArray⟩, 0) else (⟨#[]⟩, 2) := by
  rw [applyL, if_neg (by omega)]
theorem applyL_out {base : ByteArray} {will : Nat} {st : ByteArray} {l : List UInt8} {r : ByteArray × Int} (h : 0 < st.size) (hs : stepF base will st l = .inl r) : applyL base will st l = r := by
  rw [applyL, if_pos h, hs]
theorem applyL_step {base : ByteArray} {will : Nat} {st : ByteArray} {l : List UInt8} {p : ByteArray × List UInt8} (h : 0 < st.size) (hs : stepF base will st l = .inr p) : applyL base will st l = applyL base will p.1 p.2 := by
  rw [applyL, if_pos h, hs]
  simp only
  rw [dif_pos (stepF_inr hs).1]
def applyF (base d : ByteArray) : ByteArray × Int :=
  if (rNum (rNum (d, 0)).2).2.2 ≠ 0 then (⟨#[]⟩, 2)
  else if (rNum (d, 0)).1 ≠ base.size then (⟨#[]⟩, 11)
  else if 8192 < (rNum (rNum (d, 0)).2).1 then (⟨#[]⟩, 1)
  else applyL base (rNum (rNum (d, 0)).2).1 (rNum (rNum (d, 0)).2).2.1 []

/-! Apply makes the target of what Make writes. -/
theorem rNum_put {s : ByteArray} {n : Nat} {y : List UInt8} (h : n < 4611686018427387904) (hs : s.data.toList = enc n ++ y) :
    ∃ s', rNum (s, 0) = (n, (s', 0)) ∧ s'.data.toList = y := by
  obtain ⟨h1, h2, h3⟩ := rNum_back (s := s) (n := (n : Int)) (y := y) (by omega) (by omega) (by simpa using hs)
  have e : (rNum (s, 0)).1 = n := by omega
  exact ⟨(rNum (s, 0)).2.1, Prod.ext e (Prod.ext rfl h2), h3⟩
theorem step_ins {base : ByteArray} {will : Nat} {st : ByteArray} {l x y : List UInt8} (hs : st.data.toList = enc (2 * x.length) ++ (x ++ y)) (h0 : 0 < x.length) (hw : will ≤ 8192) (hl : l.length + x.length ≤ will) :
    ∃ st', stepF base will st l = .inr (st', l ++ x) ∧ st'.data.toList = y := by
  obtain ⟨s1, e1, hs1⟩ := rNum_put (s := st) (n := 2 * x.length) (by omega) hs
  have hz : s1.size = x.length + y.length := by rw [← toList_length, hs1, List.length_append]
  have e2 : rByt (s1, 0) (x.length : Int) = (s1.extract 0 x.length, (s1.extract x.length s1.size, 0)) := by
    unfold rByt
    rw [if_neg (by simp), if_neg (by simp only; omega)]
    simp
  have hx : (s1.extract 0 x.length).data.toList = x := by rw [toList_take, hs1, List.take_left' rfl]
  refine ⟨s1.extract x.length s1.size, ?_, by rw [toList_drop, hs1, List.drop_left' rfl]⟩
  unfold stepF
  rw [e1]
  simp only
  rw [if_pos (by omega), show 2 * x.length / 2 = x.length by omega, e2]
  simp only
  rw [hx]
  unfold endS
  rw [if_neg]
  simp only [List.length_append, ne_eq, not_true_eq_false, false_or]
  omega
theorem step_copy {base : ByteArray} {will : Nat} {st : ByteArray} {l y : List UInt8} {n k : Nat} (hs : st.data.toList = enc (2 * n + 1) ++ (enc k ++ y)) (h0 : 0 < n) (hw : will ≤ 8192) (hk : k + n ≤ base.size) (hb : base.size ≤ 8192) (hl : l.length + n ≤ will) :
    ∃ st', stepF base will st l = .inr (st', l ++ cutL base k (k + n)) ∧ st'.data.toList = y := by
  obtain ⟨s1, e1, hs1⟩ := rNum_put (s := st) (n := 2 * n + 1) (by omega) hs
  obtain ⟨s2, e2, hs2⟩ := rNum_put (s := s1) (n := k) (by omega) hs1
  refine ⟨s2, ?_, hs2⟩
  unfold stepF
  rw [e1]
  simp only
  rw [if_neg (by omega), e2, show (2 * n + 1) / 2 = n by omega]
  simp only
  rw [if_neg (by omega), if_pos ⟨trivial, by omega⟩]
  unfold endS
  rw [if_neg]
  simp only [List.length_append, ne_eq, not_true_eq_false, false_or, cutL_length (show k ≤ k + n by omega) hk]
  omega
theorem enc_size_pos {st : ByteArray} {n : Nat} {y : List UInt8} (hs : st.data.toList = enc n ++ y) : 0 < st.size := by
  rw [← toList_length, hs, List.length_append]
  have := enc_pos n
  omega
theorem apply_ins {base target : ByteArray} {fr to : Nat} {st : ByteArray} {y : List UInt8} (ht : target.size ≤ 8192) (hf : fr ≤ to) (hto : to ≤ target.size) (hs : st.data.toList = insB target fr to ++ y) :
    ∃ st', applyL base target.size st (cutL target 0 fr) = applyL base target.size st' (cutL target 0 to) ∧ st'.data.toList = y := by
  by_cases h : fr < to
  · have e : insB target fr to = enc (2 * (cutL target fr to).length) ++ cutL target fr to := by rw [insB, if_pos h, cutL_length hf hto]
    rw [e, List.append_assoc] at hs
    have hl := cutL_length hf hto
    obtain ⟨st', h1, h2⟩ := step_ins (base := base) (will := target.size) (l := cutL target 0 fr) hs (by omega) ht (by rw [hl, cutL_length (Nat.zero_le _) (by omega)]; omega)
    refine ⟨st', ?_, h2⟩
    rw [applyL_step (enc_size_pos hs) h1]
    simp only
    rw [cutL_join (Nat.zero_le _) hf]
  · have e : fr = to := by omega
    subst e
    exact ⟨st, rfl, by rw [hs, insB, if_neg h]; rfl⟩
theorem apply_make {base target : ByteArray} (hb : base.size ≤ 8192) (ht : target.size ≤ 8192) :
    ∀ (d i fr : Nat) (st : ByteArray), target.size - i ≤ d → fr ≤ i → i ≤ target.size → st.data.toList = makeL base target i fr →
      applyL base target.size st (cutL target 0 fr) = (target, 0) := by
  have hend : ∀ (i fr : Nat) (st : ByteArray), ¬ i + 8 ≤ target.size → fr ≤ target.size → st.data.toList = makeL base target i fr → applyL base target.size st (cutL target 0 fr) = (target, 0) := by
    intro i fr st h hf hs
    rw [makeL_end h] at hs
    obtain ⟨st', h1, h2⟩ := apply_ins (base := base) (y := []) ht hf (Nat.le_refl _) (by rw [List.append_nil]; exact hs)
    have hz : st'.size = 0 := by rw [← toList_length, h2]; rfl
    rw [h1, applyL_end hz, cutL_all, toList_length, if_pos rfl, mk_toList]
  intro d
  induction d with
  | zero =>
    intro i fr st hd hf hi hs
    exact hend i fr st (by omega) (by omega) hs
  | succ d ih =>
    intro i fr st hd hf hi hs
    by_cases h : i + 8 ≤ target.size
    · cases hm : matchF base target i with
      | none =>
        rw [makeL_none h hm] at hs
        exact ih (i + 1) fr st (by omega) (by omega) (by omega) hs
      | some p =>
        obtain ⟨k, n⟩ := p
        obtain ⟨h12, hn, hk, hcut⟩ := matchF_some hm
        rw [makeL_some h hm] at hs
        obtain ⟨st1, h1, h2⟩ := apply_ins (base := base) ht hf hi hs
        obtain ⟨st2, h3, h4⟩ := step_copy (base := base) (will := target.size) (l := cutL target 0 i) h2 (by omega) ht hk hb (by rw [cutL_length (Nat.zero_le _) hi]; omega)
        rw [h1, applyL_step (enc_size_pos h2) h3]
        simp only
        rw [hcut, cutL_join (Nat.zero_le _) (by omega)]
        exact ih (i + n) (i + n) st2 (by omega) (Nat.le_refl _) (by omega) h4
    · exact hend i fr st h (by omega) hs
theorem apply_back {base target : ByteArray} (hb : base.size ≤ 8192) (ht : target.size ≤ 8192) : applyF base (makeD base target) = (target, 0) := by
  obtain ⟨s1, e1, h1⟩ := rNum_put (s := makeD base target) (n := base.size) (by omega) (by rw [makeD, toList_mk])
  obtain ⟨s2, e2, h2⟩ := rNum_put (s := s1) (n := target.size) (by omega) h1
  unfold applyF
  rw [e1]
  simp only
  rw [e2]
  simp only
  rw [if_neg (by simp), if_neg (by simp), if_neg (by omega)]
  have := apply_make hb ht target.size 0 0 s2 (by omega) (by omega) (by omega) h2
  rw [cutL_same] at this
  exact this
theorem apply_other {base target b : ByteArray} (hb : base.size ≤ 8192) (ht : target.size ≤ 8192) (h : b.size ≠ base.size) : applyF b (makeD base target) = (⟨#[]⟩, 11) := by
  obtain ⟨s1, e1, h1⟩ := rNum_put (s := makeD base target) (n := base.size) (by omega) (by rw [makeD, toList_mk])
  obtain ⟨s2, e2, h2⟩ := rNum_put (s := s1) (n := target.size) (by omega) h1
  unfold applyF
  rw [e1]
  simp only
  rw [e2]
  simp only
  rw [if_neg (by simp), if_pos (by omega)]
/-- An example: what the statements' helper asks. -/
theorem apply_abc : applyF ⟨#[97, 98, 99]⟩ ⟨#[3, 2, 5, 1]⟩ = (⟨#[98, 99]⟩, 0) := by
  have e1 : rNum (⟨#[3, 2, 5, 1]⟩, 0) = (3, (⟨#[2, 5, 1]⟩, 0)) := by decide +kernel
  have e2 : rNum (⟨#[2, 5, 1]⟩, 0) = (2, (⟨#[5, 1]⟩, 0)) := by decide +kernel
  have e3 : stepF ⟨#[97, 98, 99]⟩ 2 ⟨#[5, 1]⟩ [] = .inr (⟨#[]⟩, [98, 99]) := by decide +kernel
  unfold applyF
  rw [e1]
  simp only
  rw [e2]
  simp only
  rw [if_neg (by simp), if_neg (by decide), if_neg (by decide), applyL_step (by decide) e3, applyL_end rfl]
  rfl
end Go.Proofs.YtalkheljejkpiaaDoor
/-! Delta1 -/
namespace Go.Proofs.YtalkheljejkpiaaDoor
open Go.RowKit
set_option linter.unusedVariables false
set_option linter.unusedSimpArgs false

theorem getElem_toList (a : ByteArray) (k : Nat) (h : k < a.size) : a.data.toList[k]'(by rw [toList_length]; exact h) = a[k] := by
  rw [Array.getElem_toList]; rfl
set_option maxRecDepth 100000 in
set_option maxHeartbeats 1600000 in
theorem sameD_any (a b : ByteArray) (w : World) (ha : a.size ≤ 9223372036854775806) (hb : b.size ≤ 9223372036854775806) :
    Calls Tryd.prog 85 #[.string a, .string b] w fun e w' => e = .returned (.int .i64 ((sameL a.data.toList b.data.toList : Nat) : Int)) ∧ Below w.heap.size w w' := by
  obtain ⟨r, hr⟩ : ∃ r, r = sameL a.data.toList b.data.toList := ⟨_, rfl⟩
  rw [← hr]
  have HR := Lib.hid hr
  clear hr
  go_enter Tryd.func85, Tryd.ntmps85
  go_wp2_with fail
  go_loopw [5] (fun i wr => ∃ k : Nat, k ≤ a.size ∧ k ≤ b.size ∧ i = .int .i64 (k : Int) ∧ r = k + sameL (a.data.toList.drop k) (b.data.toList.drop k) ∧ Below w.heap.size w wr) (fun i _ => a.size - (intOf i).toNat)
  case atStart => exact ⟨0, by omega, by omega, rfl, by rw [HR.out]; simp, Below.refl _ _⟩
  case round =>
    obtain ⟨k, hka, hkb, rfl, hrk, hB⟩ := hrel
    have HK := Lib.hid hrk
    have HB := Lib.hid hB
    have HD := Lib.hid hB.drew
    clear hrk hB
    by_cases hla : k < a.size
    · have hda : decide ((k : Int) < (a.size : Int)) = true := by simp; omega
      have hia : (k : Int) < (a.size : Int) := by omega
      have hk0 : (0 : Int) ≤ (k : Int) := by omega
      by_cases hlb : k < b.size
      · have hdb : decide ((k : Int) < (b.size : Int)) = true := by simp; omega
        have hib : (k : Int) < (b.size : Int) := by omega
        have hs := sameL_step (x := a.data.toList) (y := b.data.toList) (n := k) (by rw [toList_length]; exact hla) (by rw [toList_length]; exact hlb)
        rw [getElem_toList a k hla, getElem_toList b k hlb] at hs
        by_cases hab : a[k] = b[k]
        · rw [if_pos hab] at hs
          have HK2 := Lib.hid (show r = (k + 1) + sameL (a.data.toList.drop (k + 1)) (b.data.toList.drop (k + 1)) by rw [HK.out, hs]; omega)
          have hoo : ((a[k].toNat : Int) == (b[k].toNat : Int)) = true := by rw [hab]; simp
          clear hs hab
          go_wp2_with fail
          refine Lone.wp_region_order [(0, false), (1, false), (2, false), (3, false), (4, false), (5, false), (6, false), (7, false), (8, false), (9, false), (10, false), (11, false), (12, false), (13, false), (14, false), (15, false), (16, false), (17, false), (18, false)] (fun w' => True) (by kernel_rfl) (by kernel_rfl) rfl (by kernel_rfl) (by intro _ _ d _ _ h; cases d <;> exact h) (trivial) ?_; simp only [List.map_cons, List.map_nil, List.getElem?_toArray, List.getElem?_cons_zero, List.getElem?_cons_succ, Option.getD_some]
          repeat (first | (refine Lone.ro_q (by rfl) (v := ?_) ?_ ?_; rotate_left; (focus (intro w' hSw; (try dsimp only at hSw); go_simp; try with_reducible rfl)); simp only [Act.put, List.setIfInBounds_toArray, List.set_cons_zero, List.set_cons_succ]) | (refine Lone.ro_skip (by rfl) ?_; simp only [Act.put, List.setIfInBounds_toArray, List.set_cons_zero, List.set_cons_succ]))
          (refine Lone.ro_nil ?_; go_wp2_with fail)
          go_roundw
          case rel => exact ⟨k + 1, by omega, by omega, by first | rfl | go_num, HK2.out, HD.out⟩
          case measure => simp [intOf]; omega
        · rw [if_neg hab] at hs
          have hF : r = k := by rw [HK.out, hs]; rfl
          subst hF
          have hoo : ((a[r].toNat : Int) == (b[r].toNat : Int)) = false := by simp; intro h; exact hab (UInt8.toNat_inj.1 (by omega))
          clear hs hab
          go_wp2_with fail
          refine Lone.wp_region_order [(0, false), (1, false), (2, false), (3, false), (4, false), (5, false), (6, false), (7, false), (8, false), (9, false), (10, false), (11, false), (12, false), (13, false), (14, false), (15, false), (16, false), (17, false), (18, false)] (fun w' => True) (by kernel_rfl) (by kernel_rfl) rfl (by kernel_rfl) (by intro _ _ d _ _ h; cases d <;> exact h) (trivial) ?_; simp only [List.map_cons, List.map_nil, List.getElem?_toArray, List.getElem?_cons_zero, List.getElem?_cons_succ, Option.getD_some]
          repeat (first | (refine Lone.ro_q (by rfl) (v := ?_) ?_ ?_; rotate_left; (focus (intro w' hSw; (try dsimp only at hSw); go_simp; try with_reducible rfl)); simp only [Act.put, List.setIfInBounds_toArray, List.set_cons_zero, List.set_cons_succ]) | (refine Lone.ro_skip (by rfl) ?_; simp only [Act.put, List.setIfInBounds_toArray, List.set_cons_zero, List.set_cons_succ]))
          (refine Lone.ro_nil ?_; go_wp2_with fail)
          go_ret
          exact ⟨rfl, HD.out⟩
      · have hF : r = k := by rw [HK.out, sameL_end (.inr (by rw [toList_length]; omega))]; rfl
        subst hF
        have hdb : decide ((r : Int) < (b.size : Int)) = false := by simp; omega
        have hib : ¬ (r : Int) < (b.size : Int) := by omega
        have hdbn : decide (r < b.size) = false := by simp; omega
        clear hlb
        go_wp2_with fail
        refine Lone.wp_region_order [(0, false), (1, false), (2, false), (3, false), (4, false), (5, false), (6, false), (7, false), (8, false), (9, false), (10, false), (11, false), (12, false), (13, false), (14, false), (15, false), (16, false), (17, false), (18, false)] (fun w' => True) (by kernel_rfl) (by kernel_rfl) rfl (by kernel_rfl) (by intro _ _ d _ _ h; cases d <;> exact h) (trivial) ?_; simp only [List.map_cons, List.map_nil, List.getElem?_toArray, List.getElem?_cons_zero, List.getElem?_cons_succ, Option.getD_some]
        repeat (first | (refine Lone.ro_q (by rfl) (v := ?_) ?_ ?_; rotate_left; (focus (intro w' hSw; (try dsimp only at hSw); go_simp; try with_reducible rfl)); simp only [Act.put, List.setIfInBounds_toArray, List.set_cons_zero, List.set_cons_succ]) | (refine Lone.ro_skip (by rfl) ?_; simp only [Act.put, List.setIfInBounds_toArray, List.set_cons_zero, List.set_cons_succ]))
        (refine Lone.ro_nil ?_; go_wp2_with fail)
        go_ret
        exact ⟨rfl, HD.out⟩
    · have hF : r = k := by rw [HK.out, sameL_end (.inl (by rw [toList_length]; omega))]; rfl
      subst hF
      have hda : decide ((r : Int) < (a.size : Int)) = false := by simp; omega
      have hia : ¬ (r : Int) < (a.size : Int) := by omega
      have hdan : decide (r < a.size) = false := by simp; omega
      clear hla
      go_wp2_with fail
      refine Lone.wp_region_order [(0, false), (1, false), (2, false), (3, false), (4, false), (5, false), (6, false), (7, false), (8, false), (9, false), (10, false), (11, false), (12, false), (13, false), (14, false), (15, false), (16, false), (17, false), (18, false)] (fun w' => True) (by kernel_rfl) (by kernel_rfl) rfl (by kernel_rfl) (by intro _ _ d _ _ h; cases d <;> exact h) (trivial) ?_; simp only [List.map_cons, List.map_nil, List.getElem?_toArray, List.getElem?_cons_zero, List.getElem?_cons_succ, Option.getD_some]
      repeat (first | (refine Lone.ro_q (by rfl) (v := ?_) ?_ ?_; rotate_left; (focus (intro w' hSw; (try dsimp only at hSw); go_simp; try with_reducible rfl)); simp only [Act.put, List.setIfInBounds_toArray, List.set_cons_zero, List.set_cons_succ]) | (refine Lone.ro_skip (by rfl) ?_; simp only [Act.put, List.setIfInBounds_toArray, List.set_cons_zero, List.set_cons_succ]))
      (refine Lone.ro_nil ?_; go_wp2_with fail)
      go_ret
      exact ⟨rfl, HD.out⟩
end Go.Proofs.YtalkheljejkpiaaDoor
/-! Delta2 -/
namespace Go.Proofs.YtalkheljejkpiaaDoor
open Go.RowKit Go.Maps
set_option linter.unusedVariables false
set_option linter.unusedSimpArgs false

/-! The map of places. -/
def keyB (b : ByteArray) : Lit := .string b.data.toList
theorem keyB_inj {a b : ByteArray} (h : keyB a = keyB b) : a = b := by
  unfold keyB at h; injection h with h; exact bs_ext h
theorem keyB_key (b : ByteArray) : WideAt.IsKeyLit (keyB b) := trivial
/-- The map tells of the windows from the i-th on where each stands first. -/
structure Rep (D : DataW Unit) (base : ByteArray) (i : Nat) : Prop where
  map : IsMap D
  has : ∀ key, Maps.has D (keyB key) = (findFrom base key i (base.size - 7 - i)).isSome
  at_ : ∀ key k, findFrom base key i (base.size - 7 - i) = some k → ∀ z, D.atKey (keyB key) z = .lit (.int .i64 (k : Int))
theorem rep_start (base : ByteArray) : Rep (.map []) base (base.size - 7) :=
  ⟨isMap_empty, fun key => by rw [Nat.sub_self]; rfl, fun key k h => by rw [Nat.sub_self] at h; cases h⟩
theorem rep_step {D : DataW Unit} {base : ByteArray} {i : Nat} (h : Rep D base (i + 1)) (hi : i + 8 ≤ base.size) :
    Rep (D.put (keyB (base.extract i (i + 8))) (.lit (.int .i64 (i : Int)))) base i := by
  have e : base.size - 7 - i = (base.size - 7 - (i + 1)) + 1 := by omega
  refine ⟨h.map.put _ _, fun key => ?_, fun key k hk => ?_⟩
  · rw [e, findFrom]
    by_cases hw : base.extract i (i + 8) = key
    · subst hw
      rw [if_pos rfl, has_put_same h.map (keyB_key _)]; rfl
    · rw [if_neg hw, has_put_other (fun e => hw (keyB_inj e).symm)]
      exact h.has key
  · rw [e, findFrom] at hk
    by_cases hw : base.extract i (i + 8) = key
    · subst hw
      rw [if_pos rfl] at hk
      injection hk with hk
      subst hk
      intro z
      exact atKey_put_same h.map (keyB_key _) _ _
    · rw [if_neg hw] at hk
      intro z
      rw [atKey_put_other (fun e => hw (keyB_inj e).symm)]
      exact h.at_ key k hk z
theorem ownsMap_blk {P : Program} {k : TypeId} {R : Value → Option (DataW Unit × List MemPlace)} {w w' : World} {b n : Nat} {D : DataW Unit} (h : w.ownsMap P k R b n D) (e : w'.heap[b]? = w.heap[b]?) : w'.ownsMap P k R b n D := by
  obtain ⟨es, clock, h1, h2⟩ := h
  exact ⟨es, clock, by rw [e]; exact h1, h2⟩
theorem owns_elemD {w : World} {base : Nat} {e : TypeId} {size : Nat} {v : Value} {n : Nat} {xs : List Value} (h : w.ownsRow base e size v n xs) {k : Nat} (hk : v.ownBlock = some k) : base ≤ k ∧ ∃ cs f, w.heap[k]? = some (.cells cs e f) := by
  rcases h.2 with ⟨rfl, _⟩ | ⟨g, cap, cur, rfl, hbg, hg, r⟩
  · cases hk
  · injection hk with hk
    subst hk
    exact ⟨hbg, _, _, hg⟩

/-! What Make keeps. -/
structure MkSt (w : World) (B gt gm g gw gf nn : Nat) (D : DataW Unit) (T : ByteArray) (fr : Nat) (v : Value) (l : List UInt8) : Prop where
  box : w.heap[gt]? = some (.cells #[.string T] 9 (0, 0))
  pw : w.heap[gw]? = some (.cells #[.pointer (some ⟨g, 0, none⟩)] 64 (0, 0))
  fr : w.heap[gf]? = some (.cells #[.int .i64 (fr : Int)] 3 (0, 0))
  map : w.ownsMap Tryd.prog 9 (plainElem Tryd.prog 3) gm nn D
  wr : WrSt w B g v l 0
  bs : B ≤ gt ∧ B ≤ gm ∧ B ≤ g ∧ B ≤ gw ∧ B ≤ gf
theorem MkSt.far {w : World} {B gt gm g gw gf nn : Nat} {D : DataW Unit} {T : ByteArray} {fr : Nat} {v : Value} {l : List UInt8} (h : MkSt w B gt gm g gw gf nn D T fr v l) :
    (¬ WrS g v gt) ∧ (¬ WrS g v gm) ∧ (¬ WrS g v gw) ∧ (¬ WrS g v gf) ∧ gf ≠ gt ∧ gf ≠ gm ∧ gf ≠ gw := by
  obtain ⟨es, ck, hm, _⟩ := h.map
  have hg := h.wr.blk
  have hb := h.box
  have hp := h.pw
  have hf := h.fr
  refine ⟨?_, ?_, ?_, ?_, ?_, ?_, ?_⟩
  · rintro (e | e)
    · rw [e, hg] at hb; simp at hb
    · obtain ⟨_, cs, f, hc⟩ := owns_elemD h.wr.own e
      rw [hc] at hb; simp at hb
  · rintro (e | e)
    · rw [e, hg] at hm; simp at hm
    · obtain ⟨_, cs, f, hc⟩ := owns_elemD h.wr.own e
      rw [hc] at hm; simp at hm
  · rintro (e | e)
    · rw [e, hg] at hp; simp at hp
    · obtain ⟨_, cs, f, hc⟩ := owns_elemD h.wr.own e
      rw [hc] at hp; simp at hp
  · rintro (e | e)
    · rw [e, hg] at hf; simp at hf
    · obtain ⟨_, cs, f, hc⟩ := owns_elemD h.wr.own e
      rw [hc] at hf; simp at hf
  · intro e; rw [e, hb] at hf; simp at hf
  · intro e; rw [e, hm] at hf; simp at hf
  · intro e; rw [e, hp] at hf; simp at hf
/-- A method of the writer leaves the rest. -/
theorem MkSt.wrote {w w' : World} {B gt gm g gw gf nn : Nat} {D : DataW Unit} {T : ByteArray} {fr : Nat} {v : Value} {l l' : List UInt8} {e : Ending} (h : MkSt w B gt gm g gw gf nn D T fr v l) (ht : WrTo w B g v l' 0 e w') :
    ∃ v', MkSt w' B gt gm g gw gf nn D T fr v' l' ∧ Below B w w' := by
  obtain ⟨f1, f2, f3, f4, _⟩ := h.far
  have hbl := h.wr.below' h.bs.2.2.1 ht
  obtain ⟨he, v', hs, hu, hv⟩ := ht
  exact ⟨v', ⟨blk_upd h.box hu f1, blk_upd h.pw hu f3, blk_upd h.fr hu f4, ownsMap_blk h.map (hu.block gm h.map.lt f2), hs, h.bs⟩, hbl⟩
theorem MkSt.drew {w : World} {B gt gm g gw gf nn : Nat} {D : DataW Unit} {T : ByteArray} {fr : Nat} {v : Value} {l : List UInt8} (h : MkSt w B gt gm g gw gf nn D T fr v l) : MkSt w.drew B gt gm g gw gf nn D T fr v l :=
  ⟨h.box, h.pw, h.fr, h.map.drew, ⟨h.wr.blk, h.wr.own.drew, h.wr.ne, h.wr.le⟩, h.bs⟩
theorem MkSt.below {w w' : World} {B gt gm g gw gf nn : Nat} {D : DataW Unit} {T : ByteArray} {fr : Nat} {v : Value} {l : List UInt8} (h : MkSt w B gt gm g gw gf nn D T fr v l) (hb : Below w.heap.size w w') : MkSt w' B gt gm g gw gf nn D T fr v l :=
  ⟨blk_below h.box hb, blk_below h.pw hb, blk_below h.fr hb, ownsMap_blk h.map (hb.block gm h.map.lt), h.wr.below hb, h.bs⟩
/-- The variable from is laid anew. -/
theorem MkSt.from_ {w : World} {B gt gm g gw gf nn : Nat} {D : DataW Unit} {T : ByteArray} {fr : Nat} {v : Value} {l : List UInt8} (h : MkSt w B gt gm g gw gf nn D T fr v l) (x : Nat) :
    MkSt (w.setCell ⟨gf, 0, none⟩ (.int .i64 (x : Int))) B gt gm g gw gf nn D T x v l ∧ Below B w (w.setCell ⟨gf, 0, none⟩ (.int .i64 (x : Int))) := by
  obtain ⟨f1, f2, f3, f4, f5, f6, f7⟩ := h.far
  have hu : Upd (· = gf) w (w.setCell ⟨gf, 0, none⟩ (.int .i64 (x : Int))) := (Upd.refl (fun k => k = gf) w).setCell (a := ⟨gf, 0, none⟩) (.inl rfl) _
  refine ⟨⟨blk_upd h.box hu (fun e => f5 e.symm), blk_upd h.pw hu (fun e => f7 e.symm), one_setCell h.fr, ownsMap_blk h.map (hu.block gm h.map.lt (fun e => f6 e.symm)), h.wr.upd hu (fun e => f4 (.inl e.symm)) (fun k hk e => f4 (.inr (e ▸ hk))), h.bs⟩, hu.below h.wr.le (fun k hk => by rw [hk]; exact h.bs.2.2.2.2)⟩
/-- WrTo, one behind the other. -/
theorem WrTo.trans {w w1 w2 : World} {B g : Nat} {v v1 : Value} {l2 : List UInt8} {e2 : Int} {en : Ending} (hu : Upd (WrS g v) w w1) (hv : v1.ownBlock = v.ownBlock ∨ ∃ k, v1.ownBlock = some k ∧ w.heap.size ≤ k) (h2 : WrTo w1 B g v1 l2 e2 en w2) : WrTo w B g v l2 e2 en w2 := by
  obtain ⟨he, v2, hs, hu2, hv2⟩ := h2
  refine ⟨he, v2, hs, hu.trans' hu2 ?_, ?_⟩
  · rintro i (e | e)
    · exact .inl (.inl e)
    · rcases hv with hv | ⟨k, hk, hk2⟩
      · exact .inl (.inr (hv ▸ e))
      · rw [hk] at e; injection e with e; exact .inr (e ▸ hk2)
  · rcases hv2 with hv2 | ⟨k, hk, hk2⟩
    · rcases hv with hv | ⟨k, hk, hk2⟩
      · exact .inl (hv2.trans hv)
      · exact .inr ⟨k, hv2.trans hk, hk2⟩
    · exact .inr ⟨k, hk, Nat.le_trans hu.size hk2⟩

theorem info_string1 : (Tryd.prog.info? 9).map (·.size) = some 1 := by kernel_rfl
set_option maxRecDepth 100000 in
set_option maxHeartbeats 1600000 in
theorem insert_any {w : World} {B gt gm g gw gf nn : Nat} {D : DataW Unit} {T : ByteArray} {fr : Nat} {v : Value} {l : List UInt8} (h : MkSt w B gt gm g gw gf nn D T fr v l) (to : Nat) (ht : to ≤ T.size) (hT : T.size ≤ 8192) (hl : l.length ≤ 100000) :
    Calls Tryd.prog 84 #[.int .i64 (to : Int), .pointer (some ⟨gf, 0, none⟩), .pointer (some ⟨gw, 0, none⟩), .pointer (some ⟨gt, 0, none⟩)] w (WrTo w B g v (l ++ insB T fr to) 0) := by
  have HM := Lib.hid h
  have cf := cell_of_one h.fr
  have cw := cell_of_one h.pw
  have ct := cell_of_one h.box
  by_cases hlt : fr < to
  · have hgt : (fr : Int) < (to : Int) := by omega
    have hgb : decide ((fr : Int) < (to : Int)) = true := by simp; omega
    have e : insB T fr to = enc (2 * (to - fr)) ++ cutL T fr to := by rw [insB, if_pos hlt]
    have HNUM := Lib.hid (wNumber_good (w := w) (B := B) (g := g) (v := v) (l := l) HM.out.wr (2 * ((to : Int) - (fr : Int))) (by omega) (by omega) (by omega))
    rw [show (2 * ((to : Int) - (fr : Int))).toNat = 2 * (to - fr) by omega] at HNUM
    have HE := Lib.hid e
    have HLT := Lib.hid hlt
    clear e h hlt
    go_enter Tryd.func84, Tryd.ntmps84
    go_wp2_with fail
    (with_reducible refine HNUM.out.mono ?_)
    rintro e w1 hto
    have H1 := Lib.hid hto
    obtain ⟨rfl, v1, hs1, hu1, hv1⟩ := hto
    obtain ⟨f1, f2, f3, f4, _⟩ := HM.out.far
    have d1 := cell_of_one (blk_upd HM.out.fr hu1 f4)
    have d2 := cell_of_one (blk_upd HM.out.pw hu1 f3)
    have d3 := cell_of_one (blk_upd HM.out.box hu1 f1)
    have HS1 := Lib.hid hs1
    have HU1 := Lib.hid hu1
    have HV1 := Lib.hid hv1
    have hhd : w1.drew.cell? ⟨gf, 0, none⟩ = some (.int .i64 (fr : Int)) ∧ w1.drew.cell? ⟨gw, 0, none⟩ = some (.pointer (some ⟨g, 0, none⟩)) ∧ w1.drew.cell? ⟨gt, 0, none⟩ = some (.string T) := ⟨d1, d2, d3⟩
    have hfr0 : (0 : Int) ≤ (fr : Int) := by omega
    have hft : (fr : Int) ≤ (to : Int) := by omega
    have htT : (to : Int) ≤ (T.size : Int) := by omega
    clear hs1 hu1 hv1 cf cw ct f1 f2 f3 f4 d1 d2 d3
    go_wp2_with fail
    refine Lone.wp_region_order [(0, false), (1, false), (2, false), (3, false), (4, false), (5, true)] (fun w' => w'.cell? ⟨gf, 0, none⟩ = some (.int .i64 (fr : Int)) ∧ w'.cell? ⟨gw, 0, none⟩ = some (.pointer (some ⟨g, 0, none⟩)) ∧ w'.cell? ⟨gt, 0, none⟩ = some (.string T)) (by kernel_rfl) (by kernel_rfl) rfl (by kernel_rfl) (by intro _ _ d _ _ h; cases d <;> exact h) (hhd) ?_; simp only [List.map_cons, List.map_nil, List.getElem?_toArray, List.getElem?_cons_zero, List.getElem?_cons_succ, Option.getD_some]
    repeat (first | (refine Lone.ro_q (by rfl) (v := ?_) ?_ ?_; rotate_left; (focus (intro w' hSw; (try dsimp only at hSw); go_simp; try with_reducible rfl)); simp only [Act.put, List.setIfInBounds_toArray, List.set_cons_zero, List.set_cons_succ]) | (refine Lone.ro_skip (by rfl) ?_; simp only [Act.put, List.setIfInBounds_toArray, List.set_cons_zero, List.set_cons_succ]))
    (refine Lone.ro_loud (by rfl) (fun K hK => ?_); go_simp)
    have HB2 := Lib.hid (wBytes_good (w := w1.drew) (B := B) (g := g) (v := v1) (l := l ++ enc (2 * (to - fr))) ⟨HS1.out.blk, HS1.out.own.drew, HS1.out.ne, HS1.out.le⟩ (T.extract fr to) (by rw [List.length_append, ByteArray.size_extract]; have := enc3 (n := 2 * (to - fr)) (by omega); omega))
    rw [cutL_extract, List.append_assoc, ← HE.out] at HB2
    (with_reducible refine HB2.out.mono ?_)
    rintro e w2 hto2
    have HFIN := Lib.hid (WrTo.trans HU1.out.drew HV1.out hto2)
    obtain ⟨rfl, _⟩ := hto2
    obtain ⟨v2, hm2, _⟩ := HM.out.wrote HFIN.out
    have hhd2 := And.intro (cell_of_one hm2.fr) (And.intro (cell_of_one hm2.pw) (cell_of_one hm2.box))
    (refine hK.out _ _ (fun w' => w'.cell? ⟨gf, 0, none⟩ = some (.int .i64 (fr : Int)) ∧ w'.cell? ⟨gw, 0, none⟩ = some (.pointer (some ⟨g, 0, none⟩)) ∧ w'.cell? ⟨gt, 0, none⟩ = some (.string T)) (.inl fun _ h => h) (hhd2) ?_; clear hK K; try simp only [Act.put, List.setIfInBounds_toArray, List.set_cons_zero, List.set_cons_succ])
    repeat (first | (refine Lone.ro_q (by rfl) (v := ?_) ?_ ?_; rotate_left; (focus (intro w' hSw; (try dsimp only at hSw); go_simp; try with_reducible rfl)); simp only [Act.put, List.setIfInBounds_toArray, List.set_cons_zero, List.set_cons_succ]) | (refine Lone.ro_skip (by rfl) ?_; simp only [Act.put, List.setIfInBounds_toArray, List.set_cons_zero, List.set_cons_succ]))
    (refine Lone.ro_nil ?_; go_wp2_with fail)
    go_end0
    exact HFIN.out
  · have hgt : ¬ (fr : Int) < (to : Int) := by omega
    have hgb : decide ((fr : Int) < (to : Int)) = false := by simp; omega
    have e : insB T fr to = [] := by rw [insB, if_neg hlt]
    rw [e, List.append_nil]
    clear e h hlt
    go_enter Tryd.func84, Tryd.ntmps84
    go_wp2_with fail
    go_end0
    exact WrTo.same HM.out.wr
end Go.Proofs.YtalkheljejkpiaaDoor
/-! Delta3 -/
namespace Go.Proofs.YtalkheljejkpiaaDoor
open Go.RowKit Go.Maps Go.WideMaps
set_option linter.unusedVariables false
set_option linter.unusedSimpArgs false

theorem lawS : Keyed Tryd.prog 9 := string_keyed Tryd.underlying9
theorem zeroI (w : World) : (zeroValue 3).run Tryd.prog w = .ok (.int .i64 0) w := by kernel_rfl
theorem keyB_of (b : ByteArray) (h : b.size ≤ maxLen) : keyOf Tryd.prog 9 (.string b) = some (keyB b) := keyOf_string_mk Tryd.underlying9 h
theorem win_size (b : ByteArray) (i : Nat) : (b.extract i (i + 8)).size ≤ maxLen := by rw [ByteArray.size_extract]; unfold maxLen; omega

set_option maxRecDepth 100000 in
set_option maxHeartbeats 3200000 in
theorem make_good (base T : ByteArray) (w : World) (hb : base.size ≤ 8192) (hT : T.size ≤ 8192) :
    Calls Tryd.prog 61 #[.string base, .string T] w fun e w' => e = .returned (.tuple #[.string (makeD base T), .int .i64 0]) ∧ Below w.heap.size w w' := by
  have hb1 : ¬ (8192 : Int) < (base.size : Int) := by omega
  have hT1 : ¬ (8192 : Int) < (T.size : Int) := by omega
  have hmm := @run_makeMap Tryd.prog
  go_enter Tryd.func61, Tryd.ntmps61
  go_wp2_with fail
  go_loopw [7] (fun i wr => ∃ (j : Nat) (D : DataW Unit) (x : Int), i = .int .i64 x ∧ j ≤ base.size - 7 ∧ Rep D base j ∧ (x = (j : Int) - 1 ∨ (j = 0 ∧ -9 ≤ x ∧ x < 0)) ∧ wr.ownsMap Tryd.prog 9 (plainElem Tryd.prog 3) (w.heap.size + 1) (base.size - 7 - j) D ∧ Below (w.heap.size + 1) (w.alloc (.cells #[.string T] 9)) wr) (fun i _ => (intOf i + 1).toNat)
  case atStart =>
    refine ⟨base.size - 7, .map [], _, rfl, Nat.le_refl _, rep_start base, by omega, ?_, ?_⟩
    · rw [Nat.sub_self]; have := World.ownsMap_made (H := Unit) (w.alloc (.cells #[.string T] 9)) Tryd.prog 9 (plainElem Tryd.prog 3); simpa using this
    · have := (Below.refl (w.heap.size + 1) (w.alloc (.cells #[.string T] 9))).alloc (by simp) (.map #[] 0); simpa using this
  case round =>
    obtain ⟨j, D, x, rfl, hj, hrep, hx, hown, hB⟩ := hrel
    have HREP := Lib.hid hrep
    have HOWN := Lib.hid hown
    have HB := Lib.hid hB
    clear hrep hown hB
    by_cases hx0 : 0 ≤ x
    · obtain ⟨k, rfl⟩ : ∃ k, j = k + 1 := ⟨j - 1, by omega⟩
      obtain rfl : x = (k : Int) := by omega
      have hk8 : (k : Int) + 8 ≤ (base.size : Int) := by omega
      have hkey := keyB_of (base.extract k (k + 8)) (win_size base k)
      have HJ := Lib.hid hj
      clear hx hj
      go_wp2_with (first
        | (at_mapUpdate; refine wpList_mapUpdate_own _ rfl _ _ _ 125 rfl 9 3 lawS Tryd.underlying125 _ (w.heap.size + 1) (base.size - 7 - (k + 1)) _ rfl HOWN.out (by unfold maxLen; omega) _ _ _ rfl rfl hkey _ [] (plainElem_int Tryd.underlying3 (WalkArith.wf_i64 (by omega))) ?_; intro w1 hown1 hgrow1))
      refine ⟨⟨k, _, _, rfl, by have := HJ.out; omega, rep_step HREP.out (by omega), .inl rfl, hown1.mono (by have := HJ.out; omega), HB.out.grown hgrow1 (by have := HB.out.size; simp at this; omega) (fun i hi => by cases hi; exact Nat.le_refl _)⟩, by first | (simp [intOf]; done) | (simp [intOf]; omega)⟩
    · obtain rfl : j = 0 := by omega
      have hx1 : x < 0 := by omega
      clear hx0 hx hj
      have hwr : w.heap.size + 1 < wr.heap.size := HOWN.out.lt
      obtain ⟨X, hX⟩ : ∃ X, X = (wr.alloc (.cells #[.slice none 0 0, .int .i64 0] 67)).alloc (.cells #[.pointer (some ⟨wr.heap.size, 0, none⟩)] 64) := ⟨_, rfl⟩
      have hwx : Below wr.heap.size wr X := by rw [hX]; exact ((Below.refl _ wr).alloc (Nat.le_refl _) _).alloc (by simp) _
      have hxs : X.heap.size = wr.heap.size + 2 := by rw [hX]; simp
      have hg0 : X.heap[wr.heap.size]? = some (.cells #[.slice none 0 0, .int .i64 0] 67 (0, 0)) := by rw [hX, Below.heap_alloc _ _ _ (by simp)]; exact heap_alloc_new _ _
      have hgw0 : X.heap[wr.heap.size + 1]? = some (.cells #[.pointer (some ⟨wr.heap.size, 0, none⟩)] 64 (0, 0)) := by rw [hX]; have := heap_alloc_new (wr.alloc (.cells #[.slice none 0 0, .int .i64 0] 67)) (.cells #[.pointer (some ⟨wr.heap.size, 0, none⟩)] 64); simpa using this
      have hbx0 : (w.alloc (.cells #[.string T] 9)).heap[w.heap.size]? = some (.cells #[.string T] 9 (0, 0)) := heap_alloc_new _ _
      have hbx1 : X.heap[w.heap.size]? = some (.cells #[.string T] 9 (0, 0)) := by
        rw [hwx.block _ (by omega), HB.out.block _ (by omega)]; exact hbx0
      have hmp1 := ownsMap_blk HOWN.out (hwx.block _ hwr)
      have hw0 : WrSt X w.heap.size wr.heap.size (.slice none 0 0) [] 0 := ⟨hg0, World.ownsRow_nil _ _ _ _, by simp [Value.ownBlock], by omega⟩
      have hbel : Below w.heap.size w X := (((Below.refl _ w).alloc (Nat.le_refl _) _).trans (HB.out.mono (Nat.le_succ _))).trans (hwx.mono (by omega))
      have HN1 := Lib.hid (wNumber_good hw0 (base.size : Int) (by omega) (by omega) (by simp))
      rw [Int.toNat_natCast, List.nil_append] at HN1
      clear hw0 hwx hg0 hbx0
      go_wp2_with fail
      rw [← hX]
      (with_reducible refine HN1.out.mono ?_)
      rintro e w1 ⟨rfl, v1, hs1, hu1, hv1⟩
      have hS0 : ∀ k, k ≠ wr.heap.size → ¬ WrS wr.heap.size (.slice none 0 0) k := fun k hk e => e.elim hk (fun e => by cases e)
      have hgw1 := blk_upd hgw0 hu1 (hS0 _ (by omega))
      have hbx2 := blk_upd hbx1 hu1 (hS0 _ (by omega))
      have hmp2 := ownsMap_blk hmp1 (hu1.block _ (by omega) (hS0 _ (by omega)))
      have hbel1 : Below w.heap.size w w1 := hbel.trans (hu1.below (by omega) (fun k hk => by rcases hk with hk | hk; omega; cases hk))
      have HN2 := Lib.hid (wNumber_good hs1 (T.size : Int) (by omega) (by omega) (by have := enc2 hb; omega))
      rw [Int.toNat_natCast] at HN2
      have cw1 := cell_of_one hgw1
      have cb1 := cell_of_one hbx2
      clear hgw0 hbx1 hmp1 hbel hX HB HOWN hs1
      go_wp2_with fail
      (with_reducible refine HN2.out.mono ?_)
      rintro e w2 ⟨rfl, v2, hs2, hu2, hv2⟩
      have hne : ∀ k, k < wr.heap.size + 2 → k ≠ wr.heap.size → ¬ WrS wr.heap.size v1 k := fun k hk hk2 e => e.elim hk2 (fun e => by
        rcases hv1 with hv1 | ⟨k1, h1, h2⟩
        · rw [hv1] at e; cases e
        · rw [h1] at e; injection e with e; omega)
      have hgw2 := blk_upd hgw1 hu2 (hne _ (by omega) (by omega))
      have hbx3 := blk_upd hbx2 hu2 (hne _ (by omega) (by omega))
      have hmp3 := ownsMap_blk hmp2 (hu2.block _ (by have := hu1.size; omega) (hne _ (by omega) (by omega)))
      have hbel2 : Below w.heap.size w w2 := hbel1.trans (hu2.below (by have := hu1.size; omega) (fun k hk => by
        rcases hk with hk | hk
        · omega
        · rcases hv1 with hv1 | ⟨k1, h1, h2⟩
          · rw [hv1] at hk; cases hk
          · rw [h1] at hk; injection hk with hk; omega))
      have hsz2 : w.heap.size + 2 ≤ w2.heap.size := by have := hu1.size; have := hu2.size; omega
      have hst : MkSt (w2.alloc (.cells #[.int .i64 ((0 : Nat) : Int)] 3)) w.heap.size w.heap.size (w.heap.size + 1) wr.heap.size (wr.heap.size + 1) w2.heap.size (base.size - 7 - 0) D T 0 v2 (enc base.size ++ enc T.size) :=
        ⟨by rw [Below.heap_alloc _ _ _ (by omega)]; exact hbx3, by rw [Below.heap_alloc _ _ _ (lt_of_block hgw2)]; exact hgw2, heap_alloc_new _ _, hmp3.alloc _, hs2.below ((Below.refl _ w2).alloc (Nat.le_refl _) _), by omega⟩
      have hbel3 : Below w.heap.size w (w2.alloc (.cells #[.int .i64 ((0 : Nat) : Int)] 3)) := hbel2.alloc (by omega) _
      have HST := Lib.hid (And.intro hst hbel3)
      have HSZ := Lib.hid (And.intro hwr hsz2)
      have hmf : ∀ (fn : Fn) (first cap : Array Value) (w : World), (Instr.makeFunc fn first cap).run Tryd.prog w = .ok (.func fn first cap) w := fun _ _ _ _ => rfl
      clear hgw1 hbx2 hmp2 hbel1 hu1 hv1 hu2 hv2 hne hgw2 hbx3 hmp3 hbel2 hsz2 hst hbel3 hs2 hS0 cw1 cb1 HN1 HN2 hxs hmm hwr
      go_wp2_with fail
      have hlen0 := makeD_le hb hT
      rw [← toList_length] at hlen0
      have hfull : (makeD base T).data.toList = enc base.size ++ enc T.size ++ makeL base T 0 0 := by rw [makeD, toList_mk, List.append_assoc]
      have HD : Hid (makeD base T = ⟨(makeD base T).data.toList.toArray⟩) := Lib.hid (mk_toList _).symm
      obtain ⟨full, hfl⟩ : ∃ full, full = (makeD base T).data.toList := ⟨_, rfl⟩
      rw [← hfl] at hlen0 hfull HD
      have HFULL := Lib.hid hfull
      have HLEN := Lib.hid hlen0
      clear hfull hlen0 hfl
      generalize wr.heap.size = g at HST HSZ ⊢
      generalize w2.heap.size = gf at HST HSZ ⊢
      go_loopw [11] (fun i wl => ∃ (k fr : Nat) (v : Value) (l : List UInt8), i = .int .i64 (k : Int) ∧ fr ≤ k ∧ k ≤ T.size ∧ full = l ++ makeL base T k fr ∧ MkSt wl w.heap.size w.heap.size (w.heap.size + 1) g (g + 1) gf (base.size - 7 - 0) D T fr v l ∧ Below w.heap.size w wl) (fun i _ => T.size - (intOf i).toNat)
      case atStart => exact ⟨0, 0, v2, _, rfl, Nat.le_refl _, Nat.zero_le _, HFULL.out, HST.out.1, HST.out.2⟩
      case round =>
        clear HST HFULL
        obtain ⟨k, fr, v, l, rfl, hfk, hkT, hfu, hst, hB⟩ := hrel
        have hl : l.length ≤ 100000 := by have := HLEN.out; rw [hfu, List.length_append] at this; omega
        have HFU := Lib.hid hfu
        have HST := Lib.hid hst
        have HB := Lib.hid hB
        have cb := cell_of_one hst.box
        have cw := cell_of_one hst.pw
        clear hfu hst hB
        by_cases hlt : k + 8 ≤ T.size
        · have hlti : (k : Int) + 8 ≤ (T.size : Int) := by omega
          have hltb : decide ((k : Int) + 8 ≤ (T.size : Int)) = true := by simp; omega
          have hkey := keyB_of (T.extract k (k + 8)) (win_size T k)
          cases hf : findF base (T.extract k (k + 8)) with
          | none =>
            have hh : Maps.has D (keyB (T.extract k (k + 8))) = false := by rw [HREP.out.has]; show (findF base (T.extract k (k + 8))).isSome = false; rw [hf]; rfl
            have hm : matchF base T k = none := by unfold matchF; rw [hf]
            have HFU2 := Lib.hid (HFU.out.trans (by rw [makeL_none hlt hm]))
            clear hf hm hlt
            go_wp2_with (first | (at_lookup; refine wpList_lookup_own_ok_int _ rfl _ _ 125 rfl 9 3 .i64 lawS Tryd.underlying125 Tryd.underlying3 (zeroI _) (w.heap.size + 1) _ D rfl HST.out.map _ _ rfl hkey ?_; intro c hat hwc))
            exact ⟨⟨k + 1, fr, v, l, rfl, by omega, by omega, HFU2.out, HST.out, HB.out⟩, by simp [intOf]; omega⟩
          | some kk =>
            have hk8 := findF_some hf
            have hh : Maps.has D (keyB (T.extract k (k + 8))) = true := by rw [HREP.out.has]; show (findF base (T.extract k (k + 8))).isSome = true; rw [hf]; rfl
            have HAT := Lib.hid (HREP.out.at_ (T.extract k (k + 8)) kk hf)
            have hS18 : wr.drew.cell? ⟨w.heap.size, 0, none⟩ = some (.string T) := cb
            have hkki : (kk : Int) ≤ (base.size : Int) := by omega
            have hkki0 : (0 : Int) ≤ (kk : Int) := by omega
            have hki : (k : Int) ≤ (T.size : Int) := by omega
            have hki0 : (0 : Int) ≤ (k : Int) := by omega
            obtain ⟨n, hn⟩ : ∃ n, n = sameL (base.data.toList.drop kk) (T.data.toList.drop k) := ⟨_, rfl⟩
            have HSM := Lib.hid (sameD_any (base.extract kk base.size) (T.extract k T.size) wr.drew (by rw [ByteArray.size_extract]; omega) (by rw [ByteArray.size_extract]; omega))
            rw [toList_drop, toList_drop, ← hn] at HSM
            have hm : matchF base T k = if n < 12 then none else some (kk, n) := by unfold matchF; rw [hf, hn]
            have HM := Lib.hid hm
            have HLT := Lib.hid hlt
            clear hf hm hlt hn
            go_wp2_with (first | (at_lookup; refine wpList_lookup_own_ok_int _ rfl _ _ 125 rfl 9 3 .i64 lawS Tryd.underlying125 Tryd.underlying3 (zeroI _) (w.heap.size + 1) _ D rfl HST.out.map _ _ rfl hkey ?_; intro c hat hwc; obtain rfl : c = (kk : Int) := (Lit.int.inj (DataW.lit.inj ((HAT.out (.lit (.int .i64 0))).symm.trans hat))).2.symm; clear hat hwc))
            refine Lone.wp_region_order [(0, false), (1, false), (2, false), (3, false), (4, false), (5, false), (6, true), (7, false)] (fun w' => w'.cell? ⟨w.heap.size, 0, none⟩ = some (.string T)) (by kernel_rfl) (by kernel_rfl) rfl (by kernel_rfl) (by intro _ _ d _ _ h; cases d <;> exact h) (hS18) ?_; simp only [List.map_cons, List.map_nil, List.getElem?_toArray, List.getElem?_cons_zero, List.getElem?_cons_succ, Option.getD_some]
            repeat (first | (refine Lone.ro_q (by rfl) (v := ?_) ?_ ?_; rotate_left; (focus (intro w' hSw; (try dsimp only at hSw); go_simp; try with_reducible rfl)); simp only [Act.put, List.setIfInBounds_toArray, List.set_cons_zero, List.set_cons_succ]) | (refine Lone.ro_skip (by rfl) ?_; simp only [Act.put, List.setIfInBounds_toArray, List.set_cons_zero, List.set_cons_succ]))
            (refine Lone.ro_loud (by rfl) (fun K hK => ?_); go_simp)
            (with_reducible refine HSM.out.mono ?_)
            rintro e w3 ⟨rfl, hb3⟩
            have HST3 := Lib.hid (HST.out.drew.below hb3)
            have HB3 := Lib.hid (HB.out.drew.trans (hb3.mono HB.out.drew.size))
            have cb3 := cell_of_one HST3.out.box
            have cw3 := cell_of_one HST3.out.pw
            clear hb3 hS18 cb cw
            (refine hK.out _ _ (fun w' => w'.cell? ⟨w.heap.size, 0, none⟩ = some (.string T)) (.inl fun _ h => h) (cb3) ?_; clear hK K; try simp only [Act.put, List.setIfInBounds_toArray, List.set_cons_zero, List.set_cons_succ])
            repeat (first | (refine Lone.ro_q (by rfl) (v := ?_) ?_ ?_; rotate_left; (focus (intro w' hSw; (try dsimp only at hSw); go_simp; try with_reducible rfl)); simp only [Act.put, List.setIfInBounds_toArray, List.set_cons_zero, List.set_cons_succ]) | (refine Lone.ro_skip (by rfl) ?_; simp only [Act.put, List.setIfInBounds_toArray, List.set_cons_zero, List.set_cons_succ]))
            refine Lone.ro_nil ?_
            by_cases h12 : n < 12
            · have hni : (n : Int) < 12 := by omega
              have hnb : decide ((n : Int) < 12) = true := by simp; omega
              have hm := HM.out
              rw [if_pos h12] at hm
              have HFU2 := Lib.hid (HFU.out.trans (by rw [makeL_none HLT.out hm]))
              clear hm h12
              go_wp2_with fail
              exact ⟨⟨k + 1, fr, v, l, rfl, by omega, by omega, HFU2.out, HST3.out, HB3.out⟩, by simp [intOf]; omega⟩
            · have hni : ¬ (n : Int) < 12 := by omega
              have hnb : decide ((n : Int) < 12) = false := by simp; omega
              have hm := HM.out
              rw [if_neg h12] at hm
              obtain ⟨_, hnT, hnb2, _⟩ := matchF_some hm
              have HFU2 := Lib.hid (HFU.out.trans (by rw [makeL_some HLT.out hm]))
              have HINS := Lib.hid (insert_any HST3.out k hkT hT hl)
              clear hm h12
              go_wp2_with fail
              (with_reducible refine HINS.out.mono ?_)
              rintro e w4 hto
              obtain ⟨v4, hm4, hb4⟩ := HST3.out.wrote hto
              have HB4 := Lib.hid (HB3.out.trans hb4)
              have cw4 := cell_of_one hm4.pw
              have hl4 : (l ++ insB T fr k).length ≤ 100000 := by have := HLEN.out; rw [HFU2.out] at this; simp only [List.length_append] at this ⊢; omega
              have HN4 := Lib.hid (wNumber_good hm4.wr (2 * (n : Int) + 1) (by omega) (by omega) (by omega))
              rw [show (2 * (n : Int) + 1).toNat = 2 * n + 1 by omega] at HN4
              have HM4 := Lib.hid hm4
              obtain ⟨rfl, _⟩ := hto
              clear hm4 hb4 cb3 cw3
              go_wp2_with fail
              (with_reducible refine HN4.out.mono ?_)
              rintro e w5 hto
              obtain ⟨v5, hm5, hb5⟩ := HM4.out.wrote hto
              have HB5 := Lib.hid (HB4.out.trans hb5)
              have cw5 := cell_of_one hm5.pw
              have HN5 := Lib.hid (wNumber_good hm5.wr (kk : Int) (by omega) (by omega) (by rw [List.length_append]; have := enc3 (n := 2 * n + 1) (by omega); omega))
              rw [Int.toNat_natCast] at HN5
              have HM5 := Lib.hid hm5
              obtain ⟨rfl, _⟩ := hto
              clear hm5 hb5 cw4 hl4
              go_wp2_with fail
              (with_reducible refine HN5.out.mono ?_)
              rintro e w6 hto
              obtain ⟨v6, hm6, hb6⟩ := HM5.out.wrote hto
              have HB6 := Lib.hid (HB5.out.trans hb6)
              have cf6 := cell_of_one hm6.fr
              have ff6 := free_of_one hm6.fr
              obtain ⟨hm7, hb7⟩ := hm6.from_ (k + n)
              have HM7 := Lib.hid hm7
              have HB7 := Lib.hid (HB6.out.trans hb7)
              obtain ⟨rfl, _⟩ := hto
              clear hm6 hm7 hb6 hb7 cw5
              go_wp2_with fail
              rw [show (k : Int) + (n : Int) = ((k + n : Nat) : Int) by omega]
              exact ⟨⟨k + n, k + n, v6, _, rfl, Nat.le_refl _, by omega, by rw [HFU2.out]; simp only [List.append_assoc], HM7.out, HB7.out⟩, by simp [intOf]; omega⟩
        · have hex := makeL_end (base := base) (fr := fr) hlt
          have hlti : ¬ (k : Int) + 8 ≤ (T.size : Int) := by omega
          have hltb : decide ((k : Int) + 8 ≤ (T.size : Int)) = false := by simp; omega
          have hltn : decide (k + 8 ≤ T.size) = false := by simp; omega
          have HINS := Lib.hid (insert_any HST.out T.size (Nat.le_refl _) hT hl)
          rw [← hex, ← HFU.out] at HINS
          clear hlt hex
          go_wp2_with fail
          (with_reducible refine HINS.out.mono ?_)
          rintro e w5 hto
          obtain ⟨v5, hm5, hb5⟩ := HST.out.wrote hto
          have HB5 := Lib.hid (HB.out.trans hb5)
          have HDN := Lib.hid (wDone_any (st := (full, 0)) hm5.wr)
          rw [show doneV (full, (0 : Int)) = .tuple #[.string ⟨full.toArray⟩, .int .i64 0] from rfl] at HDN
          have cw5 := cell_of_one hm5.pw
          obtain ⟨rfl, _⟩ := hto
          clear hb5 cb cw
          go_wp2_with fail
          (with_reducible refine HDN.out.mono ?_)
          rintro e w6 ⟨rfl, q, rfl⟩
          go_wp2_with fail
          go_ret2
          exact ⟨by rw [HD.out]; rfl, below_drewN HB5.out q⟩
set_option maxRecDepth 100000 in
set_option maxHeartbeats 3200000 in
theorem make_any (base T : ByteArray) (w : World) (hb : base.size ≤ 9223372036854775807) (hT : T.size ≤ 9223372036854775807) :
    Calls Tryd.prog 61 #[.string base, .string T] w fun e w' => e = .returned (.tuple #[.string (makeF base T).1, .int .i64 (makeF base T).2]) ∧ Below w.heap.size w w' := by
  by_cases h1 : base.size ≤ 8192
  · by_cases h2 : T.size ≤ 8192
    · have e : makeF base T = (makeD base T, 0) := by unfold makeF; rw [if_pos ⟨h1, h2⟩]
      rw [e]; exact make_good base T w h1 h2
    · have e : makeF base T = (⟨#[]⟩, 1) := by unfold makeF; rw [if_neg (by omega)]
      rw [e]
      have hb1 : ¬ (8192 : Int) < (base.size : Int) := by omega
      have hT1 : (8192 : Int) < (T.size : Int) := by omega
      have hb2 : decide ((8192 : Int) < (base.size : Int)) = false := by simp; omega
      have hT2 : decide ((8192 : Int) < (T.size : Int)) = true := by simp; omega
      clear h1 h2 e
      go_enter Tryd.func61, Tryd.ntmps61
      go_wp2_with fail
      go_ret2
      exact ⟨rfl, (Below.refl _ _).alloc (Nat.le_refl _) _⟩
  · have e : makeF base T = (⟨#[]⟩, 1) := by unfold makeF; rw [if_neg (by omega)]
    rw [e]
    have hb1 : (8192 : Int) < (base.size : Int) := by omega
    have hb2 : decide ((8192 : Int) < (base.size : Int)) = true := by simp; omega
    clear h1 e
    go_enter Tryd.func61, Tryd.ntmps61
    go_wp2_with fail
    go_ret2
    exact ⟨rfl, (Below.refl _ _).alloc (Nat.le_refl _) _⟩
end Go.Proofs.YtalkheljejkpiaaDoor
/-! Delta4 -/
namespace Go.Proofs.YtalkheljejkpiaaDoor
open Go.RowKit
set_option linter.unusedVariables false
set_option linter.unusedSimpArgs false

/-- How much a reader has left. -/
def restOf (w : World) (g : Nat) : Nat := match w.cell? ⟨g, 0, none⟩ with
  | some (.string s) => s.size
  | _ => 0
theorem restOf_st {w : World} {g : Nat} {st : ByteArray × Int} (h : RdSt w g st) : restOf w g = st.1.size := by
  unfold restOf; rw [(cell_of_two h.blk).1]
theorem rdst_own {w w' : World} {B g : Nat} {v : Value} {l : List UInt8} (h : w.ownsRow B 5 1 v l.length (bvs l)) (hg : v.ownBlock ≠ some g) (hu : Upd (fun k => k = g) w w') : w'.ownsRow B 5 1 v l.length (bvs l) :=
  owns_upd h hu (fun k hk e => hg (e ▸ hk))
theorem stepF_even {base : ByteArray} {will : Nat} {st : ByteArray} {l : List UInt8} {op : Nat} {s1 s2 : ByteArray × Int} {x : ByteArray} (hq : rNum (st, 0) = (op, s1)) (hp : rByt s1 ((op / 2 : Nat) : Int) = (x, s2)) (h : op % 2 = 0) :
    stepF base will st l = endS will (op / 2) s2 (l ++ x.data.toList) := by
  unfold stepF; rw [hq]; simp only; rw [if_pos h, hp]
theorem stepF_range {base : ByteArray} {will : Nat} {st : ByteArray} {l : List UInt8} {op k : Nat} {s1 s2 : ByteArray × Int} (hq : rNum (st, 0) = (op, s1)) (hp : rNum s1 = (k, s2)) (h : ¬ op % 2 = 0) (h2 : s2.2 = 0 ∧ (base.size < k ∨ base.size - k < op / 2)) :
    stepF base will st l = .inl (⟨#[]⟩, 3) := by
  unfold stepF; rw [hq]; simp only; rw [if_neg h, hp]; simp only; rw [if_pos h2]
theorem stepF_odd {base : ByteArray} {will : Nat} {st : ByteArray} {l : List UInt8} {op k : Nat} {s1 s2 : ByteArray × Int} (hq : rNum (st, 0) = (op, s1)) (hp : rNum s1 = (k, s2)) (h : ¬ op % 2 = 0) (h2 : ¬ (s2.2 = 0 ∧ (base.size < k ∨ base.size - k < op / 2))) :
    stepF base will st l = endS will (op / 2) s2 (if s2.2 = 0 ∧ op / 2 ≤ will then l ++ cutL base k (k + op / 2) else l) := by
  unfold stepF; rw [hq]; simp only; rw [if_neg h, hp]; simp only; rw [if_neg h2]
theorem rNum_62D (x : ByteArray × Int) : (rNum x).1 < 4611686018427387904 := by
  unfold rNum
  split
  · show 0 < 4611686018427387904; omega
  · cases hg : get x.1.data.toList with
    | none => show 0 < 4611686018427387904; omega
    | some p => exact (get_some hg).1
theorem rByt_out (x : ByteArray × Int) (n : Int) : (rByt x n).1.size ≤ x.1.size := by
  unfold rByt
  split
  · exact Nat.zero_le _
  · split
    · exact Nat.zero_le _
    · simp only [ByteArray.size_extract]; omega
theorem ne_blk {v v' : Value} {g N : Nat} (h : v.ownBlock ≠ some g) (hb : v'.ownBlock = v.ownBlock ∨ v'.ownBlock = some N) (hg : g < N) : v'.ownBlock ≠ some g := by
  rcases hb with hb | hb
  · rw [hb]; exact h
  · rw [hb]; intro e; injection e with e; omega
theorem endS_bad {will n : Nat} {st : ByteArray × Int} {l : List UInt8} (h : ¬ (st.2 = 0 ∧ n ≠ 0 ∧ n ≤ will ∧ l.length ≤ will)) : endS will n st l = .inl (⟨#[]⟩, 2) := by
  unfold endS
  rw [if_pos]
  apply Classical.byContradiction
  intro hc
  simp only [not_or, ne_eq, Decidable.not_not] at hc
  exact h ⟨hc.1, hc.2.1, by omega, by omega⟩
theorem tdiv2 (n : Nat) : ((n : Int)).tdiv 2 = ((n / 2 : Nat) : Int) := by rw [Int.tdiv_eq_ediv_of_nonneg (by omega)]; omega
theorem tmod2 (n : Nat) : ((n : Int)).tmod 2 = ((n % 2 : Nat) : Int) := by rw [Int.tmod_eq_emod_of_nonneg (by omega)]; omega

set_option maxRecDepth 100000 in
set_option maxHeartbeats 3200000 in
theorem apply_any (base d : ByteArray) (w : World) (hb : base.size ≤ 140737488355328) (hd : d.size ≤ 70368744177664) :
    Calls Tryd.prog 64 #[.string base, .string d] w fun e w' => e = .returned (.tuple #[.string (applyF base d).1, .int .i64 (applyF base d).2]) ∧ Below w.heap.size w w' := by
  obtain ⟨F, hF⟩ : ∃ F, F = applyF base d := ⟨_, rfl⟩
  rw [← hF]
  have HF := Lib.hid hF
  have HDS := Lib.hid hd
  clear hF
  go_enter Tryd.func64, Tryd.ntmps64
  go_wp2_with fail
  (with_reducible refine (read_any d w).mono ?_)
  rintro e w1 ⟨rfl, hr1, hb1, hz1⟩
  have HB1 := Lib.hid hb1
  have HN1 := Lib.hid (rNumber_any hr1 (by simp only; unfold maxLen; omega))
  have hle1 := rNum_leD (d, 0)
  obtain ⟨q1, hq1⟩ : ∃ q, q = rNum (d, 0) := ⟨_, rfl⟩
  rw [← hq1] at HN1 hle1
  have HQ1 := Lib.hid hq1
  obtain ⟨was, s1⟩ := q1
  generalize hg : w.heap.size = g at *
  clear hr1 hb1 hq1
  go_wp2_with fail
  (with_reducible refine HN1.out.mono ?_)
  rintro e w2 ⟨rfl, hr2, hu2⟩
  have HB2 := Lib.hid (HB1.out.trans (hu2.below (by omega) (fun k hk => by omega)))
  have HN2 := Lib.hid (rNumber_any hr2 (by have h : s1.1.size ≤ d.size := hle1; unfold maxLen; omega))
  have hle2 := rNum_leD s1
  obtain ⟨q2, hq2⟩ : ∃ q, q = rNum s1 := ⟨_, rfl⟩
  rw [← hq2] at hle2
  rw [← hq2] at HN2
  have HQ2 := Lib.hid hq2
  obtain ⟨will, s2⟩ := q2
  clear hr2 hu2 hq2
  go_wp2_with fail
  (with_reducible refine HN2.out.mono ?_)
  rintro e w3 ⟨rfl, hr3, hu3⟩
  have HB3 := Lib.hid (HB2.out.trans (hu3.below (by have := HB2.out.size; omega) (fun k hk => by omega)))
  have HR3 := Lib.hid hr3
  obtain ⟨r2, e2⟩ := s2
  clear hr3 hu3
  go_wp2_with fail
  (with_reducible refine (rBad_any HR3.out).mono ?_)
  rintro e w0 ⟨rfl, rfl⟩
  have hle : r2.size ≤ d.size := Nat.le_trans hle2 hle1
  clear hle1 hle2
  have hA : F = if e2 ≠ 0 then (⟨#[]⟩, 2) else if was ≠ base.size then (⟨#[]⟩, 11) else if 8192 < will then (⟨#[]⟩, 1) else applyL base will r2 [] := by
    rw [HF.out, applyF, ← HQ1.out]; simp only; rw [← HQ2.out]
  have HA := Lib.hid hA
  clear hA
  by_cases he2 : e2 = 0
  · subst he2
    by_cases hwas : was = base.size
    · have hw1 : ((was : Int) == (base.size : Int)) = true := by simp; omega
      have hw2 : ((was : Int) != (base.size : Int)) = false := by simp; omega
      by_cases hwill : will ≤ 8192
      · have hA := HA.out
        rw [if_neg (by simp), if_neg (by omega), if_neg (by omega)] at hA
        have hwi : ¬ (8192 : Int) < (will : Int) := by omega
        have hwb : decide ((8192 : Int) < (will : Int)) = false := by simp; omega
        have HA2 := Lib.hid hA
        clear hA HA hwas
        have HB3' := Lib.hid (show Below g w w3 from HB3.out)
        go_wp2_with fail
        go_loopw [9] (fun v wl => ∃ (st : ByteArray) (l : List UInt8), RdSt wl g (st, 0) ∧ wl.ownsRow g 5 1 v l.length (bvs l) ∧ v.ownBlock ≠ some g ∧ l.length ≤ will ∧ st.size ≤ d.size ∧ F = applyL base will st l ∧ Below g w wl) (fun _ wl => restOf wl g)
        case atStart => exact ⟨r2, [], HR3.out, World.ownsRow_nil _ _ _ _, by simp [Value.ownBlock], Nat.zero_le _, hle, HA2.out, HB3'.out⟩
        case round =>
          clear HR3 HA2 HB3' HB3 HB2 HB1 HN1 HN2
          rename_i v9
          obtain ⟨st, l, hr, ho, hne, hlw, hsd, hF, hB⟩ := hrel
          have HR := Lib.hid hr
          have HO := Lib.hid ho
          have HNE := Lib.hid hne
          have HFL := Lib.hid hF
          have HB := Lib.hid hB
          obtain ⟨ao, cp, rfl⟩ := owns_slice ho
          clear hr ho hne hF hB
          by_cases hpos : 0 < st.size
          · have hpi : (0 : Int) < (st.size : Int) := by omega
            have hpb : decide ((0 : Int) < (st.size : Int)) = true := by simp; omega
            go_wp2_with fail
            (with_reducible refine (rLeft_any HR.out).mono ?_)
            rintro e w0 ⟨rfl, rfl⟩
            have HN := Lib.hid (rNumber_any HR.out (by show st.size ≤ _; unfold maxLen; omega))
            have hlq := rNum_leD (st, 0)
            have h62 := rNum_62D (st, 0)
            obtain ⟨q, hq⟩ : ∃ q, q = rNum (st, 0) := ⟨_, rfl⟩
            rw [← hq] at HN hlq h62
            obtain ⟨op, s1⟩ := q
            obtain ⟨n, hn⟩ : ∃ n, n = op / 2 := ⟨_, rfl⟩
            have hls : s1.1.size ≤ st.size := hlq
            have hwr : wrap64 ((op : Int) / 2) = (n : Int) := by rw [IntWalk.wrap64_in _ (by have h : op < 4611686018427387904 := h62; omega)]; omega
            have hn61 : n < 4611686018427387904 := Nat.lt_of_le_of_lt (by rw [hn]; exact Nat.div_le_self _ _) h62
            have HQ := Lib.hid hq.symm
            have hdv : ((op : Int)).tdiv 2 = (n : Int) := by rw [tdiv2, hn]
            have HNN := Lib.hid hn
            clear hlq hq h62 hn hdv
            go_wp2_with fail
            (with_reducible refine HN.out.mono ?_)
            rintro e w4 ⟨rfl, hr4, hu4⟩
            have HR4 := Lib.hid hr4
            have HO4 := Lib.hid (rdst_own HO.out HNE.out hu4)
            have HB4 := Lib.hid (HB.out.trans (hu4.below (by have := HB.out.size; omega) (fun k hk => by omega)))
            have hmd : ((op : Int)).tmod 2 = ((op % 2 : Nat) : Int) := tmod2 op
            clear hr4 hu4 HN
            by_cases hpar : op % 2 = 0
            · rw [hpar] at hmd
              have HBY := Lib.hid (rBytes_any HR4.out (by omega) (n : Int))
              have hlb := rByt_leD s1 (n : Int)
              have hxo := rByt_out s1 (n : Int)
              obtain ⟨p, hp⟩ : ∃ p, p = rByt s1 (n : Int) := ⟨_, rfl⟩
              rw [← hp] at HBY hlb hxo
              obtain ⟨x, s2⟩ := p
              have hxs : x.size ≤ 70368744177664 := Nat.le_trans hxo (by omega)
              have hls2 : s2.1.size ≤ st.size := Nat.le_trans hlb hls
              have HSF := Lib.hid (stepF_even (base := base) (will := will) (l := l) (x := x) (s2 := s2) HQ.out (by rw [← HNN.out]; exact hp.symm) hpar)
              rw [← HNN.out] at HSF
              obtain ⟨L, hL⟩ : ∃ L, L = l ++ x.data.toList := ⟨_, rfl⟩
              rw [← hL] at HSF
              have HL := Lib.hid hL
              clear hlb hp hpar hL hxo
              go_wp2_with fail
              (with_reducible refine HBY.out.mono ?_)
              rintro e w5 ⟨rfl, hr5, hu5⟩
              have HR5 := Lib.hid hr5
              have HO5 := Lib.hid (rdst_own HO4.out HNE.out hu5)
              have HB5 := Lib.hid (HB4.out.trans (hu5.below (by have := HB4.out.size; omega) (fun k hk => by omega)))
              clear hr5 hu5 HBY
              obtain ⟨r6, e6⟩ := s2
              go_wp2_with (first | (at_builtin; refine wpList_append_str (S := fun k => (Value.slice ao l.length cp).ownBlock = some k) rfl _ _ 65 9 rfl info_u8W Tryd.underlying65 Tryd.underlying9 HO5.out (Upd.refl _ _) (by have := HB5.out.size; omega) (by omega) (fun k hk => .inl hk) rfl rfl ?_; intro v6 w6 hown6 hgrow6 hupd6 hblk6; rw [← HL.out] at hown6; obtain ⟨ao6, cp6, hv6⟩ := owns_slice hown6; subst hv6; have HO6 := Lib.hid hown6; have HR6 := Lib.hid (HR5.out.upd hupd6 (fun e => HNE.out e)); have HNE6 := Lib.hid (ne_blk HNE.out hblk6 (lt_of_block HR5.out.blk)); have HB6 := Lib.hid (HB5.out.trans (hupd6.below (by have := HB5.out.size; omega) (fun k hk => (owns_elemD HO5.out hk).1))); clear hown6 hgrow6 hupd6 hblk6))
              go_wp2_with fail
              (with_reducible refine (rBad_any HR6.out).mono ?_)
              rintro e w0 ⟨rfl, rfl⟩
              by_cases hok : e6 = 0 ∧ n ≠ 0 ∧ n ≤ will ∧ L.length ≤ will
              · obtain ⟨he6, hn0, hnw, hlw6⟩ := hok
                subst he6
                have h1 : ((n : Int) == 0) = false := beq_eq_false_iff_ne.2 (by omega)
                have h2 : ¬ (will : Int) < (n : Int) := by omega
                have h2b : decide ((will : Int) < (n : Int)) = false := decide_eq_false h2
                have h2n : decide (will < n) = false := decide_eq_false (by omega)
                have h3 : ¬ (will : Int) < (L.length : Int) := by omega
                have h3b : decide ((will : Int) < (L.length : Int)) = false := decide_eq_false h3
                have h3n : decide (will < L.length) = false := decide_eq_false (by omega)
                have hs : stepF base will st l = .inr (r6, L) := by rw [HSF.out]; unfold endS; rw [if_neg]; simp only [not_or, ne_eq, Decidable.not_not]; exact ⟨trivial, hn0, by omega, by omega⟩
                have HF2 := Lib.hid (HFL.out.trans (applyL_step hpos hs))
                have HLT := Lib.hid (show r6.size < st.size from (stepF_inr hs).1)
                have HLW := Lib.hid hlw6
                clear hs hn0 hnw hlw6
                go_wp2_with fail
                exact ⟨⟨r6, L, HR6.out, HO6.out, HNE6.out, HLW.out, by have := HLT.out; omega, HF2.out, HB6.out⟩, by rw [restOf_st HR6.out, restOf_st HR.out]; exact HLT.out⟩
              · have hF2 : F = (⟨#[]⟩, 2) := HFL.out.trans (applyL_out hpos (by rw [HSF.out]; exact endS_bad hok))
                subst hF2
                by_cases he6 : e6 = 0
                · subst he6
                  by_cases hn0 : n = 0
                  · have h1 : ((n : Int) == 0) = true := by rw [hn0]; rfl
                    clear hok hn0
                    go_wp2_with fail
                    go_ret2
                    exact ⟨rfl, hg ▸ HB6.out⟩
                  · have h1 : ((n : Int) == 0) = false := beq_eq_false_iff_ne.2 (by omega)
                    by_cases hnw : n ≤ will
                    · have h2 : ¬ (will : Int) < (n : Int) := by omega
                      have h2b : decide ((will : Int) < (n : Int)) = false := decide_eq_false h2
                      have h2n : decide (will < n) = false := decide_eq_false (by omega)
                      have hlw6 : ¬ L.length ≤ will := fun h => hok ⟨rfl, hn0, hnw, h⟩
                      have h3 : (will : Int) < (L.length : Int) := by omega
                      have h3b : decide ((will : Int) < (L.length : Int)) = true := decide_eq_true h3
                      have h3n : decide (will < L.length) = true := decide_eq_true (by omega)
                      clear hok hn0 hnw hlw6
                      go_wp2_with fail
                      go_ret2
                      exact ⟨rfl, hg ▸ HB6.out⟩
                    · have h2 : (will : Int) < (n : Int) := by omega
                      have h2b : decide ((will : Int) < (n : Int)) = true := decide_eq_true h2
                      have h2n : decide (will < n) = true := decide_eq_true (by omega)
                      clear hok hn0 hnw
                      go_wp2_with fail
                      go_ret2
                      exact ⟨rfl, hg ▸ HB6.out⟩
                · have h1 : (e6 == 0) = false := beq_eq_false_iff_ne.2 he6
                  have h2 : (e6 != 0) = true := by rw [bne, h1]; rfl
                  clear hok he6
                  go_wp2_with fail
                  go_ret2
                  exact ⟨rfl, hg ▸ HB6.out⟩
            · rw [show op % 2 = 1 by omega] at hmd
              have HN5 := Lib.hid (rNumber_any HR4.out (by have : s1.1.size ≤ st.size := hls; unfold maxLen; omega))
              have hlb := rNum_leD s1
              have h62 := rNum_62D s1
              obtain ⟨p, hp⟩ : ∃ p, p = rNum s1 := ⟨_, rfl⟩
              rw [← hp] at HN5 hlb h62
              obtain ⟨k, r6, e6⟩ := p
              have hk62 : k < 4611686018427387904 := h62
              have hls2 : r6.size ≤ st.size := Nat.le_trans hlb hls
              have HP := Lib.hid hp.symm
              have HPAR := Lib.hid hpar
              clear hlb hp hpar h62
              go_wp2_with fail
              (with_reducible refine HN5.out.mono ?_)
              rintro e w5 ⟨rfl, hr5, hu5⟩
              have HR5 := Lib.hid hr5
              have HO5 := Lib.hid (rdst_own HO4.out HNE.out hu5)
              have HB5 := Lib.hid (HB4.out.trans (hu5.below (by have := HB4.out.size; omega) (fun k hk => by omega)))
              clear hr5 hu5 HN5
              go_wp2_with fail
              (with_reducible refine (rBad_any HR5.out).mono ?_)
              rintro e w0 ⟨rfl, rfl⟩
              by_cases he6 : e6 = 0
              · subst he6
                by_cases hrg : base.size < k ∨ base.size - k < n
                · have hF2 : F = (⟨#[]⟩, 3) := HFL.out.trans (applyL_out hpos (stepF_range HQ.out HP.out HPAR.out ⟨rfl, by rw [← HNN.out]; exact hrg⟩))
                  subst hF2
                  by_cases hk : base.size < k
                  · have h1 : (base.size : Int) < (k : Int) := by omega
                    have h1b : decide ((base.size : Int) < (k : Int)) = true := decide_eq_true h1
                    have h1n : decide (base.size < k) = true := decide_eq_true hk
                    clear hk hrg
                    go_wp2_with fail
                    go_ret2
                    exact ⟨rfl, hg ▸ HB5.out⟩
                  · have h1 : ¬ (base.size : Int) < (k : Int) := by omega
                    have h1b : decide ((base.size : Int) < (k : Int)) = false := decide_eq_false h1
                    have h1n : decide (base.size < k) = false := decide_eq_false hk
                    have h2 : (base.size : Int) - (k : Int) < (n : Int) := by omega
                    have h2b : decide ((base.size : Int) - (k : Int) < (n : Int)) = true := decide_eq_true h2
                    clear hk hrg
                    go_wp2_with fail
                    go_ret2
                    exact ⟨rfl, hg ▸ HB5.out⟩
                · have hkb : k ≤ base.size := by omega
                  have hkn : k + n ≤ base.size := by omega
                  have h1 : ¬ (base.size : Int) < (k : Int) := by omega
                  have h1b : decide ((base.size : Int) < (k : Int)) = false := decide_eq_false h1
                  have h1n : decide (base.size < k) = false := decide_eq_false (by omega)
                  have h2 : ¬ (base.size : Int) - (k : Int) < (n : Int) := by omega
                  have h2b : decide ((base.size : Int) - (k : Int) < (n : Int)) = false := decide_eq_false h2
                  have hsf := stepF_odd (base := base) (will := will) (l := l) HQ.out HP.out HPAR.out (by rw [← HNN.out]; exact fun h => hrg h.2)
                  rw [← HNN.out] at hsf
                  clear hrg
                  by_cases hnw : n ≤ will
                  · rw [if_pos ⟨rfl, hnw⟩, ← cutL_extract] at hsf
                    obtain ⟨L, hL⟩ : ∃ L, L = l ++ (base.extract k (k + n)).data.toList := ⟨_, rfl⟩
                    rw [← hL] at hsf
                    have HL := Lib.hid hL
                    have HSF := Lib.hid hsf
                    have h3 : (n : Int) ≤ (will : Int) := by omega
                    have h3b : decide ((n : Int) ≤ (will : Int)) = true := decide_eq_true h3
                    have h3n : decide (n ≤ will) = true := decide_eq_true hnw
                    have hk0 : (0 : Int) ≤ (k : Int) := by omega
                    have hkn2 : (k : Int) + (n : Int) ≤ (base.size : Int) := by omega
                    have hsz : (base.extract k (k + n)).size ≤ 8192 := by rw [ByteArray.size_extract]; omega
                    clear hsf hL
                    go_wp2_with fail
                    (with_reducible refine (rBad_any HR5.out).mono ?_)
                    rintro e w0 ⟨rfl, rfl⟩
                    clear hnw
                    go_wp2_with (first | (at_builtin; refine wpList_append_str (S := fun k => (Value.slice ao l.length cp).ownBlock = some k) rfl _ _ 65 9 rfl info_u8W Tryd.underlying65 Tryd.underlying9 HO5.out (Upd.refl _ _) (by have := HB5.out.size; omega) (by omega) (fun k hk => .inl hk) rfl rfl ?_; intro v6 w6 hown6 hgrow6 hupd6 hblk6; rw [← HL.out] at hown6; obtain ⟨ao6, cp6, hv6⟩ := owns_slice hown6; subst hv6; have HO6 := Lib.hid hown6; have HR6 := Lib.hid (HR5.out.upd hupd6 (fun e => HNE.out e)); have HNE6 := Lib.hid (ne_blk HNE.out hblk6 (lt_of_block HR5.out.blk)); have HB6 := Lib.hid (HB5.out.trans (hupd6.below (by have := HB5.out.size; omega) (fun k hk => (owns_elemD HO5.out hk).1))); clear hown6 hgrow6 hupd6 hblk6))
                    go_wp2_with fail
                    (with_reducible refine (rBad_any HR6.out).mono ?_)
                    rintro e w0 ⟨rfl, rfl⟩
                    by_cases hok : (0 : Int) = 0 ∧ n ≠ 0 ∧ n ≤ will ∧ L.length ≤ will
                    · obtain ⟨he6, hn0, hnw, hlw6⟩ := hok
                      clear he6
                      have h1 : ((n : Int) == 0) = false := beq_eq_false_iff_ne.2 (by omega)
                      have h2 : ¬ (will : Int) < (n : Int) := by omega
                      have h2b : decide ((will : Int) < (n : Int)) = false := decide_eq_false h2
                      have h2n : decide (will < n) = false := decide_eq_false (by omega)
                      have h3 : ¬ (will : Int) < (L.length : Int) := by omega
                      have h3b : decide ((will : Int) < (L.length : Int)) = false := decide_eq_false h3
                      have h3n : decide (will < L.length) = false := decide_eq_false (by omega)
                      have hs : stepF base will st l = .inr (r6, L) := by rw [HSF.out]; unfold endS; rw [if_neg]; simp only [not_or, ne_eq, Decidable.not_not]; exact ⟨trivial, hn0, by omega, by omega⟩
                      have HF2 := Lib.hid (HFL.out.trans (applyL_step hpos hs))
                      have HLT := Lib.hid (show r6.size < st.size from (stepF_inr hs).1)
                      have HLW := Lib.hid hlw6
                      clear hs hn0 hnw hlw6
                      go_wp2_with fail
                      exact ⟨⟨r6, L, HR6.out, HO6.out, HNE6.out, HLW.out, by have := HLT.out; omega, HF2.out, HB6.out⟩, by rw [restOf_st HR6.out, restOf_st HR.out]; exact HLT.out⟩
                    · have hF2 : F = (⟨#[]⟩, 2) := HFL.out.trans (applyL_out hpos (by rw [HSF.out]; exact endS_bad hok))
                      subst hF2
                      by_cases hn0 : n = 0
                      · have h1 : ((n : Int) == 0) = true := by rw [hn0]; rfl
                        clear hok hn0
                        go_wp2_with fail
                        go_ret2
                        exact ⟨rfl, hg ▸ HB6.out⟩
                      · have h1 : ((n : Int) == 0) = false := beq_eq_false_iff_ne.2 (by omega)
                        by_cases hnw : n ≤ will
                        · have h2 : ¬ (will : Int) < (n : Int) := by omega
                          have h2b : decide ((will : Int) < (n : Int)) = false := decide_eq_false h2
                          have h2n : decide (will < n) = false := decide_eq_false (by omega)
                          have hlw6 : ¬ L.length ≤ will := fun h => hok ⟨rfl, hn0, hnw, h⟩
                          have h3 : (will : Int) < (L.length : Int) := by omega
                          have h3b : decide ((will : Int) < (L.length : Int)) = true := decide_eq_true h3
                          have h3n : decide (will < L.length) = true := decide_eq_true (by omega)
                          clear hok hn0 hnw hlw6
                          go_wp2_with fail
                          go_ret2
                          exact ⟨rfl, hg ▸ HB6.out⟩
                        · have h2 : (will : Int) < (n : Int) := by omega
                          have h2b : decide ((will : Int) < (n : Int)) = true := decide_eq_true h2
                          have h2n : decide (will < n) = true := decide_eq_true (by omega)
                          clear hok hn0 hnw
                          go_wp2_with fail
                          go_ret2
                          exact ⟨rfl, hg ▸ HB6.out⟩
                  · rw [if_neg (fun h => hnw h.2)] at hsf
                    have hF2 : F = (⟨#[]⟩, 2) := HFL.out.trans (applyL_out hpos (by rw [hsf]; unfold endS; rw [if_pos (.inr (.inr (.inl (by omega))))]))
                    subst hF2
                    have h3 : ¬ (n : Int) ≤ (will : Int) := by omega
                    have h3b : decide ((n : Int) ≤ (will : Int)) = false := decide_eq_false h3
                    have h3n : decide (n ≤ will) = false := decide_eq_false hnw
                    have h4 : (will : Int) < (n : Int) := by omega
                    have h4b : decide ((will : Int) < (n : Int)) = true := decide_eq_true h4
                    have h4n : decide (will < n) = true := decide_eq_true (by omega)
                    have h5 : ((n : Int) == 0) = false := beq_eq_false_iff_ne.2 (by omega)
                    clear hsf hnw
                    go_wp2_with fail
                    (with_reducible refine (rBad_any HR5.out).mono ?_)
                    rintro e w0 ⟨rfl, rfl⟩
                    go_wp2_with fail
                    (with_reducible refine (rBad_any HR5.out).mono ?_)
                    rintro e w0 ⟨rfl, rfl⟩
                    go_wp2_with fail
                    go_ret2
                    exact ⟨rfl, hg ▸ HB5.out⟩
              · have hsf := stepF_odd (base := base) (will := will) (l := l) HQ.out HP.out HPAR.out (fun h => he6 h.1)
                have hF2 : F = (⟨#[]⟩, 2) := HFL.out.trans (applyL_out hpos (by rw [hsf]; unfold endS; rw [if_pos (.inl he6)]))
                subst hF2
                have h1 : (e6 == 0) = false := beq_eq_false_iff_ne.2 he6
                have h2 : (e6 != 0) = true := by rw [bne, h1]; rfl
                clear hsf he6
                go_wp2_with fail
                (with_reducible refine (rBad_any HR5.out).mono ?_)
                rintro e w0 ⟨rfl, rfl⟩
                go_wp2_with fail
                (with_reducible refine (rBad_any HR5.out).mono ?_)
                rintro e w0 ⟨rfl, rfl⟩
                go_wp2_with fail
                go_ret2
                exact ⟨rfl, hg ▸ HB5.out⟩
          · have hz : st.size = 0 := by omega
            have hFe := HFL.out.trans (applyL_end hz)
            have hpi : ¬ (0 : Int) < (st.size : Int) := by omega
            have hpb : decide ((0 : Int) < (st.size : Int)) = false := decide_eq_false (by omega)
            have hpn : decide (0 < st.size) = false := decide_eq_false (by omega)
            clear hpos
            go_wp2_with fail
            (with_reducible refine (rLeft_any HR.out).mono ?_)
            rintro e w0 ⟨rfl, rfl⟩
            by_cases hlen : l.length = will
            · rw [if_pos hlen] at hFe
              have h1 : ((l.length : Int) == (will : Int)) = true := by rw [hlen]; exact beq_self_eq_true _
              have h2 : ((l.length : Int) != (will : Int)) = false := by rw [bne, h1]; rfl
              subst hFe
              clear hlen
              go_wp2_with (first | (refine wpList_bytes_string rfl _ 65 9 5 rfl Tryd.underlying65 Tryd.underlying5 Tryd.underlying9 (rdRow_of_owns HO.out) rfl ?_))
              go_ret2
              exact ⟨rfl, hg ▸ HB.out⟩
            · rw [if_neg hlen] at hFe
              have h1 : ((l.length : Int) == (will : Int)) = false := beq_eq_false_iff_ne.2 (fun e => hlen (by omega))
              have h2 : ((l.length : Int) != (will : Int)) = true := by rw [bne, h1]; rfl
              subst hFe
              clear hlen
              go_wp2_with fail
              go_ret2
              exact ⟨rfl, hg ▸ HB.out⟩
      · have hA := HA.out
        rw [if_neg (by simp), if_neg (by omega), if_pos (by omega)] at hA
        have hwi : (8192 : Int) < (will : Int) := by omega
        have hwb : decide ((8192 : Int) < (will : Int)) = true := by simp; omega
        subst hA
        clear HA hwill hwas
        go_wp2_with fail
        go_ret2
        exact ⟨rfl, hg ▸ HB3.out⟩
    · have hA := HA.out
      rw [if_neg (by simp), if_pos hwas] at hA
      have hw1 : ((was : Int) == (base.size : Int)) = false := by simp; omega
      have hw2 : ((was : Int) != (base.size : Int)) = true := by simp; omega
      subst hA
      clear HA hwas
      go_wp2_with fail
      go_ret2
      exact ⟨rfl, hg ▸ HB3.out⟩
  · have hA := HA.out
    rw [if_pos he2] at hA
    have h1 : (e2 == 0) = false := by simpa using he2
    have h2 : (e2 != 0) = true := by simpa using he2
    subst hA
    clear HA he2
    go_wp2_with fail
    go_ret2
    exact ⟨rfl, hg ▸ HB3.out⟩
end Go.Proofs.YtalkheljejkpiaaDoor
