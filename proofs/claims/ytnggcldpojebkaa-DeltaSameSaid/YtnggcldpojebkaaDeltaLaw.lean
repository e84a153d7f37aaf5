/- delta in plain Lean: what Make and Apply come to, and that Apply makes the target of Make's delta. -/
import Derived.Test.YtnggcldpojebkaaWireRowsLaw
namespace Go.Proofs.Ytnggcldpojebkaa
set_option linter.unusedVariables false

def cutL (s : ByteArray) (i j : Nat) : List UInt8 := (s.data.toList.drop i).take (j - i)
theorem cutL_extract (s : ByteArray) (i j : Nat) : (s.extract i j).data.toList = cutL s i j := toList_extract s i j
theorem cutL_length {s : ByteArray} {i j : Nat} (h : i ≤ j) (hj : j ≤ s.size) : (cutL s i j).length = j - i := by
  rw [cutL, List.length_take, List.length_drop, toList_length]; omega
theorem cutL_all (s : ByteArray) : cutL s 0 s.size = s.data.toList := by
  rw [cutL, List.drop_zero, List.take_of_length_le]; rw [toList_length]; omega
theorem cutL_same (s : ByteArray) (i : Nat) : cutL s i i = [] := by rw [cutL, Nat.sub_self, List.take_zero]
theorem cutL_join {s : ByteArray} {i j k : Nat} (h : i ≤ j) (h2 : j ≤ k) : cutL s i j ++ cutL s j k = cutL s i k := by
  unfold cutL
  have e : k - i = (j - i) + (k - j) := by omega
  have e2 : s.data.toList.drop j = (s.data.toList.drop i).drop (j - i) := by rw [List.drop_drop]; congr 1; omega
  rw [e, List.take_add, e2]

/-! How many bytes two texts begin with alike. -/
def sameL : List UInt8 → List UInt8 → Nat
  | a :: x, b :: y => if a = b then sameL x y + 1 else 0
  | _, _ => 0
theorem sameL_le : ∀ (x y : List UInt8), sameL x y ≤ x.length ∧ sameL x y ≤ y.length
  | [], y => by simp [sameL]
  | a :: x, [] => by simp [sameL]
  | a :: x, b :: y => by
    have := sameL_le x y
    unfold sameL
    split
    · simp; omega
    · simp
theorem sameL_take : ∀ (x y : List UInt8), x.take (sameL x y) = y.take (sameL x y)
  | [], y => by simp [sameL]
  | a :: x, [] => by simp [sameL]
  | a :: x, b :: y => by
    have := sameL_take x y
    unfold sameL
    split
    · rename_i h; subst h; simp [this]
    · simp
theorem sameL_pre : ∀ (x y : List UInt8), sameL x (x ++ y) = x.length
  | [], y => by simp [sameL]
  | a :: x, y => by simp [sameL, sameL_pre x y]
theorem sameL_step {x y : List UInt8} {n : Nat} (hx : n < x.length) (hy : n < y.length) :
    sameL (x.drop n) (y.drop n) = if x[n] = y[n] then sameL (x.drop (n + 1)) (y.drop (n + 1)) + 1 else 0 := by
  rw [List.drop_eq_getElem_cons hx, List.drop_eq_getElem_cons hy, sameL]
theorem sameL_end {x y : List UInt8} {n : Nat} (h : x.length ≤ n ∨ y.length ≤ n) : sameL (x.drop n) (y.drop n) = 0 := by
  have := sameL_le (x.drop n) (y.drop n)
  rw [List.length_drop, List.length_drop] at this
  omega

/-! Where eight bytes stand first. -/
def findFrom (base key : ByteArray) : Nat → Nat → Option Nat
  | _, 0 => none
  | i, c + 1 => if base.extract i (i + 8) = key then some i else findFrom base key (i + 1) c
theorem findFrom_some {base key : ByteArray} : ∀ {c i k : Nat}, findFrom base key i c = some k → i ≤ k ∧ k < i + c
  | 0, i, k, h => by simp [findFrom] at h
  | c + 1, i, k, h => by
    unfold findFrom at h
    split at h
    · injection h with h; omega
    · have := findFrom_some h; omega
def findF (base key : ByteArray) : Option Nat := findFrom base key 0 (base.size - 7)
theorem findF_some {base key : ByteArray} {k : Nat} (h : findF base key = some k) : k + 8 ≤ base.size := by
  have := findFrom_some h; omega
def matchF (base target : ByteArray) (i : Nat) : Option (Nat × Nat) :=
  match findF base (target.extract i (i + 8)) with
  | none => none
  | some k => if sameL (base.data.toList.drop k) (target.data.toList.drop i) < 12 then none else some (k, sameL (base.data.toList.drop k) (target.data.toList.drop i))
theorem matchF_some {base target : ByteArray} {i k n : Nat} (h : matchF base target i = some (k, n)) :
    12 ≤ n ∧ n ≤ target.size - i ∧ k + n ≤ base.size ∧ cutL base k (k + n) = cutL target i (i + n) := by
  unfold matchF at h
  split at h
  · cases h
  · rename_i k' hk
    have hk8 := findF_some hk
    split at h
    · cases h
    · injection h with h
      injection h with h1 h2
      subst h1 h2
      have hl := sameL_le (base.data.toList.drop k') (target.data.toList.drop i)
      rw [List.length_drop, List.length_drop, toList_length, toList_length] at hl
      have ht := sameL_take (base.data.toList.drop k') (target.data.toList.drop i)
      refine ⟨by omega, hl.2, by omega, ?_⟩
      unfold cutL
      rw [Nat.add_sub_cancel_left, Nat.add_sub_cancel_left]
      exact ht

/-! What Make writes. -/
def insB (target : ByteArray) (fr to : Nat) : List UInt8 := if fr < to then enc (2 * (to - fr)) ++ cutL target fr to else []
def makeL (base target : ByteArray) (i fr : Nat) : List UInt8 :=
  if h : i + 8 ≤ target.size then
    match matchF base target i with
    | none => makeL base target (i + 1) fr
    | some p => if h2 : 12 ≤ p.2 then insB target fr i ++ (enc (2 * p.2 + 1) ++ (enc p.1 ++ makeL base target (i + p.2) (i + p.2))) else []
  else insB target fr target.size
termination_by target.size - i
decreasing_by all_goals omega
theorem makeL_end {base target : ByteArray} {i fr : Nat} (h : ¬ i + 8 ≤ target.size) : makeL base target i fr = insB target fr target.size := by
  rw [makeL, dif_neg h]
theorem makeL_none {base target : ByteArray} {i fr : Nat} (h : i + 8 ≤ target.size) (hm : matchF base target i = none) : makeL base target i fr = makeL base target (i + 1) fr := by
  rw [makeL, dif_pos h, hm]
theorem makeL_some {base target : ByteArray} {i fr k n : Nat} (h : i + 8 ≤ target.size) (hm : matchF base target i = some (k, n)) :
    makeL base target i fr = insB target fr i ++ (enc (2 * n + 1) ++ (enc k ++ makeL base target (i + n) (i + n))) := by
  have h12 := (matchF_some hm).1
  rw [makeL, dif_pos h, hm]
  simp only
  rw [dif_pos h12]
def makeD (base target : ByteArray) : ByteArray := ⟨(enc base.size ++ (enc target.size ++ makeL base target 0 0)).toArray⟩
def makeF (base target : ByteArray) : ByteArray × Int :=
  if base.size ≤ 8192 ∧ target.size ≤ 8192 then (makeD base target, 0) else (⟨#[]⟩, 1)

/-! How long that is. -/
theorem enc3 {n : Nat} (h : n ≤ 16385) : (enc n).length ≤ 3 := enc_len n 2 (by omega)
theorem enc2 {n : Nat} (h : n ≤ 8192) : (enc n).length ≤ 2 := enc_len n 1 (by omega)
theorem insB_length {target : ByteArray} {fr to : Nat} (h : fr ≤ to) (ht : to ≤ target.size) (h8 : target.size ≤ 8192) : (insB target fr to).length ≤ to - fr + 3 := by
  unfold insB
  split
  · rw [List.length_append, cutL_length h ht]
    have := enc3 (n := 2 * (to - fr)) (by omega)
    omega
  · simp
theorem makeL_length {base target : ByteArray} (hb : base.size ≤ 8192) (ht : target.size ≤ 8192) :
    ∀ (d i fr : Nat), target.size - i ≤ d → fr ≤ i → i ≤ target.size → (makeL base target i fr).length ≤ target.size - fr + 3 := by
  intro d
  induction d with
  | zero =>
    intro i fr hd hf hi
    rw [makeL_end (by omega)]
    exact insB_length (by omega) (Nat.le_refl _) ht
  | succ d ih =>
    intro i fr hd hf hi
    by_cases h : i + 8 ≤ target.size
    · cases hm : matchF base target i with
      | none =>
        rw [makeL_none h hm]
        exact ih (i + 1) fr (by omega) (by omega) (by omega)
      | some p =>
        obtain ⟨k, n⟩ := p
        obtain ⟨h12, hn, hk, _⟩ := matchF_some hm
        have h1 := insB_length (target := target) hf hi ht
        have h2 := enc3 (n := 2 * n + 1) (by omega)
        have h3 := enc2 (n := k) (by omega)
        have h4 := ih (i + n) (i + n) (by omega) (Nat.le_refl _) (by omega)
        rw [makeL_some h hm]
        simp only [List.length_append]
        omega
    · rw [makeL_end h]
      exact insB_length (by omega) (Nat.le_refl _) ht
theorem makeD_size (base target : ByteArray) : (makeD base target).size = (enc base.size).length + ((enc target.size).length + (makeL base target 0 0).length) := by
  rw [← toList_length, makeD, toList_mk]; simp
theorem makeD_le {base target : ByteArray} (hb : base.size ≤ 8192) (ht : target.size ≤ 8192) : (makeD base target).size ≤ target.size + 8 := by
  rw [makeD_size]
  have h1 := enc2 hb
  have h2 := enc2 ht
  have h3 := makeL_length hb ht target.size 0 0 (by omega) (by omega) (by omega)
  omega
theorem match_pre {base more : ByteArray} (h : 16 ≤ base.size) : matchF base (base ++ more) 0 = some (0, base.size) := by
  have hw : base.extract 0 (0 + 8) = (base ++ more).extract 0 (0 + 8) := by
    apply bs_ext
    rw [cutL_extract, cutL_extract, cutL, cutL, toList_append]
    simp only [Nat.zero_add, List.drop_zero, Nat.sub_zero]
    rw [List.take_append_of_le_length (by rw [toList_length]; omega)]
  have hf : findF base ((base ++ more).extract 0 (0 + 8)) = some 0 := by
    unfold findF
    obtain ⟨c, hc⟩ : ∃ c, base.size - 7 = c + 1 := ⟨base.size - 8, by omega⟩
    rw [hc, findFrom, if_pos hw]
  unfold matchF
  rw [hf]
  simp only [List.drop_zero]
  rw [toList_append, sameL_pre, toList_length, if_neg (by omega)]
theorem makeD_pre {base more : ByteArray} (h : 16 ≤ base.size) (hs : base.size + more.size ≤ 8192) : (makeD base (base ++ more)).size ≤ more.size + 20 := by
  have hz : (base ++ more).size = base.size + more.size := ByteArray.size_append
  rw [makeD_size, makeL_some (k := 0) (n := base.size) (by omega) (match_pre h)]
  simp only [List.length_append, Nat.zero_add]
  have h1 := enc2 (n := base.size) (by omega)
  have h2 := enc2 (n := (base ++ more).size) (by omega)
  have h3 := enc3 (n := 2 * base.size + 1) (by omega)
  have h4 : (enc 0).length = 1 := by rw [enc_small 0 (by omega)]; rfl
  have h5 := makeL_length (base := base) (target := base ++ more) (by omega) (by omega) (base ++ more).size base.size base.size (by omega) (Nat.le_refl _) (by omega)
  have h6 : (insB (base ++ more) 0 0).length = 0 := by simp [insB]
  omega

/-! What Apply comes to. -/
def endS (will n : Nat) (st : ByteArray × Int) (l : List UInt8) : (ByteArray × Int) ⊕ (ByteArray × List UInt8) :=
  if st.2 ≠ 0 ∨ n = 0 ∨ will < n ∨ will < l.length then .inl (⟨#[]⟩, 2) else .inr (st.1, l)
def stepF (base : ByteArray) (will : Nat) (st : ByteArray) (l : List UInt8) : (ByteArray × Int) ⊕ (ByteArray × List UInt8) :=
  if (rNum (st, 0)).1 % 2 = 0 then
    endS will ((rNum (st, 0)).1 / 2) (rByt (rNum (st, 0)).2 (((rNum (st, 0)).1 / 2 : Nat) : Int)).2 (l ++ (rByt (rNum (st, 0)).2 (((rNum (st, 0)).1 / 2 : Nat) : Int)).1.data.toList)
  else
    if (rNum (rNum (st, 0)).2).2.2 = 0 ∧ (base.size < (rNum (rNum (st, 0)).2).1 ∨ base.size - (rNum (rNum (st, 0)).2).1 < (rNum (st, 0)).1 / 2) then .inl (⟨#[]⟩, 3)
    else endS will ((rNum (st, 0)).1 / 2) (rNum (rNum (st, 0)).2).2
      (if (rNum (rNum (st, 0)).2).2.2 = 0 ∧ (rNum (st, 0)).1 / 2 ≤ will then l ++ cutL base (rNum (rNum (st, 0)).2).1 ((rNum (rNum (st, 0)).2).1 + (rNum (st, 0)).1 / 2) else l)
theorem rNum_err {x : ByteArray × Int} (h : x.2 ≠ 0) : rNum x = (0, x) := by unfold rNum; rw [if_pos h]
theorem rNum_lt {s : ByteArray} (h : (rNum (s, 0)).2.2 = 0) : (rNum (s, 0)).2.1.size < s.size := by
  unfold rNum at h ⊢
  simp only [ne_eq, not_true_eq_false, if_false] at h ⊢
  cases hg : get s.data.toList with
  | none => rw [hg] at h; simp at h
  | some p =>
    obtain ⟨n, k⟩ := p
    have := get_some hg
    simp only [ByteArray.size_extract]
    rw [toList_length] at this
    omega
theorem rNum_le (x : ByteArray × Int) : (rNum x).2.1.size ≤ x.1.size := by
  unfold rNum
  split
  · exact Nat.le_refl _
  · cases hg : get x.1.data.toList with
    | none => exact Nat.le_refl _
    | some p => simp only [ByteArray.size_extract]; omega
theorem rByt_le (x : ByteArray × Int) (n : Int) : (rByt x n).2.1.size ≤ x.1.size := by
  unfold rByt
  split
  · exact Nat.le_refl _
  · split
    · exact Nat.le_refl _
    · simp only [ByteArray.size_extract]; omega
theorem rByt_err {x : ByteArray × Int} (n : Int) (h : x.2 ≠ 0) : rByt x n = (⟨#[]⟩, x) := by unfold rByt; rw [if_pos h]
theorem endS_inr {will n : Nat} {st : ByteArray × Int} {l : List UInt8} {p : ByteArray × List UInt8} (h : endS will n st l = .inr p) : st.2 = 0 ∧ p = (st.1, l) ∧ n ≠ 0 ∧ n ≤ will ∧ l.length ≤ will := by
  unfold endS at h
  split at h
  · cases h
  · injection h with h
    refine ⟨?_, h.symm, ?_, ?_, ?_⟩ <;> rename_i hh <;> simp only [not_or, ne_eq, Decidable.not_not] at hh <;> omega
theorem stepF_inr {base : ByteArray} {will : Nat} {st : ByteArray} {l : List UInt8} {p : ByteArray × List UInt8} (h : stepF base will st l = .inr p) : p.1.size < st.size ∧ p.2.length ≤ will := by
  by_cases he : (rNum (st, 0)).2.2 = 0
  · have hlt := rNum_lt he
    unfold stepF at h
    split at h
    · obtain ⟨_, rfl, _, _, hl⟩ := endS_inr h
      exact ⟨Nat.lt_of_le_of_lt (rByt_le _ _) hlt, hl⟩
    · split at h
      · cases h
      · obtain ⟨_, rfl, _, _, hl⟩ := endS_inr h
        exact ⟨Nat.lt_of_le_of_lt (rNum_le _) hlt, hl⟩
  · exfalso
    unfold stepF at h
    split at h
    · obtain ⟨h0, _⟩ := endS_inr h
      rw [rByt_err _ he] at h0; exact he h0
    · split at h
      · cases h
      · obtain ⟨h0, _⟩ := endS_inr h
        rw [rNum_err he] at h0; exact he h0
def applyL (base : ByteArray) (will : Nat) (st : ByteArray) (l : List UInt8) : ByteArray × Int :=
  if 0 < st.size then
    match stepF base will st l with
    | .inl r => r
    | .inr p => if h : p.1.size < st.size then applyL base will p.1 p.2 else (⟨#[]⟩, 0)
  else if l.length = will then (⟨l.toArray⟩, 0) else (⟨#[]⟩, 2)
termination_by st.size
theorem applyL_end {base : ByteArray} {will : Nat} {st : ByteArray} {l : List UInt8} (h : st.size = 0) : applyL base will st l = if l.length = will then (⟨l.toArray⟩, 0) else (⟨#[]⟩, 2) := by
  rw [applyL, if_neg (by omega)]
theorem applyL_out {base : ByteArray} {will : Nat} {st : ByteArray} {l : List UInt8} {r : ByteArray × Int} (h : 0 < st.size) (hs : stepF base will st l = .inl r) : applyL base will st l = r := by
  rw [applyL, if_pos h, hs]
theorem applyL_step {base : ByteArray} {will : Nat} {st : ByteArray} {l : List UInt8} {p : ByteArray × List UInt8} (h : 0 < st.size) (hs : stepF base will st l = .inr p) : applyL base will st l = applyL base will p.1 p.2 := by
  rw [applyL, if_pos h, hs]
  simp only
  rw [dif_pos (stepF_inr hs).1]
def applyF (base d : ByteArray) : ByteArray × Int :=
  if (rNum (rNum (d, 0)).2).2.2 ≠ 0 then (⟨#[]⟩, 2)
  else if (rNum (d, 0)).1 ≠ base.size then (⟨#[]⟩, 11)
  else if 8192 < (rNum (rNum (d, 0)).2).1 then (⟨#[]⟩, 1)
  else applyL base (rNum (rNum (d, 0)).2).1 (rNum (rNum (d, 0)).2).2.1 []

/-! Apply makes the target of what Make writes. -/
theorem rNum_put {s : ByteArray} {n : Nat} {y : List UInt8} (h : n < 4611686018427387904) (hs : s.data.toList = enc n ++ y) :
    ∃ s', rNum (s, 0) = (n, (s', 0)) ∧ s'.data.toList = y := by
  obtain ⟨h1, h2, h3⟩ := rNum_back (s := s) (n := (n : Int)) (y := y) (by omega) (by omega) (by simpa using hs)
  have e : (rNum (s, 0)).1 = n := by omega
  exact ⟨(rNum (s, 0)).2.1, Prod.ext e (Prod.ext rfl h2), h3⟩
theorem step_ins {base : ByteArray} {will : Nat} {st : ByteArray} {l x y : List UInt8} (hs : st.data.toList = enc (2 * x.length) ++ (x ++ y)) (h0 : 0 < x.length) (hw : will ≤ 8192) (hl : l.length + x.length ≤ will) :
    ∃ st', stepF base will st l = .inr (st', l ++ x) ∧ st'.data.toList = y := by
  obtain ⟨s1, e1, hs1⟩ := rNum_put (s := st) (n := 2 * x.length) (by omega) hs
  have hz : s1.size = x.length + y.length := by rw [← toList_length, hs1, List.length_append]
  have e2 : rByt (s1, 0) (x.length : Int) = (s1.extract 0 x.length, (s1.extract x.length s1.size, 0)) := by
    unfold rByt
    rw [if_neg (by simp), if_neg (by simp only; omega)]
    simp
  have hx : (s1.extract 0 x.length).data.toList = x := by rw [toList_take, hs1, List.take_left' rfl]
  refine ⟨s1.extract x.length s1.size, ?_, by rw [toList_drop, hs1, List.drop_left' rfl]⟩
  unfold stepF
  rw [e1]
  simp only
  rw [if_pos (by omega), show 2 * x.length / 2 = x.length by omega, e2]
  simp only
  rw [hx]
  unfold endS
  rw [if_neg]
  simp only [List.length_append, ne_eq, not_true_eq_false, false_or]
  omega
theorem step_copy {base : ByteArray} {will : Nat} {st : ByteArray} {l y : List UInt8} {n k : Nat} (hs : st.data.toList = enc (2 * n + 1) ++ (enc k ++ y)) (h0 : 0 < n) (hw : will ≤ 8192) (hk : k + n ≤ base.size) (hb : base.size ≤ 8192) (hl : l.length + n ≤ will) :
    ∃ st', stepF base will st l = .inr (st', l ++ cutL base k (k + n)) ∧ st'.data.toList = y := by
  obtain ⟨s1, e1, hs1⟩ := rNum_put (s := st) (n := 2 * n + 1) (by omega) hs
  obtain ⟨s2, e2, hs2⟩ := rNum_put (s := s1) (n := k) (by omega) hs1
  refine ⟨s2, ?_, hs2⟩
  unfold stepF
  rw [e1]
  simp only
  rw [if_neg (by omega), e2, show (2 * n + 1) / 2 = n by omega]
  simp only
  rw [if_neg (by omega), if_pos ⟨trivial, by omega⟩]
  unfold endS
  rw [if_neg]
  simp only [List.length_append, ne_eq, not_true_eq_false, false_or, cutL_length (show k ≤ k + n by omega) hk]
  omega
theorem enc_size_pos {st : ByteArray} {n : Nat} {y : List UInt8} (hs : st.data.toList = enc n ++ y) : 0 < st.size := by
  rw [← toList_length, hs, List.length_append]
  have := enc_pos n
  omega
theorem apply_ins {base target : ByteArray} {fr to : Nat} {st : ByteArray} {y : List UInt8} (ht : target.size ≤ 8192) (hf : fr ≤ to) (hto : to ≤ target.size) (hs : st.data.toList = insB target fr to ++ y) :
    ∃ st', applyL base target.size st (cutL target 0 fr) = applyL base target.size st' (cutL target 0 to) ∧ st'.data.toList = y := by
  by_cases h : fr < to
  · have e : insB target fr to = enc (2 * (cutL target fr to).length) ++ cutL target fr to := by rw [insB, if_pos h, cutL_length hf hto]
    rw [e, List.append_assoc] at hs
    have hl := cutL_length hf hto
    obtain ⟨st', h1, h2⟩ := step_ins (base := base) (will := target.size) (l := cutL target 0 fr) hs (by omega) ht (by rw [hl, cutL_length (Nat.zero_le _) (by omega)]; omega)
    refine ⟨st', ?_, h2⟩
    rw [applyL_step (enc_size_pos hs) h1]
    simp only
    rw [cutL_join (Nat.zero_le _) hf]
  · have e : fr = to := by omega
    subst e
    exact ⟨st, rfl, by rw [hs, insB, if_neg h]; rfl⟩
theorem apply_make {base target : ByteArray} (hb : base.size ≤ 8192) (ht : target.size ≤ 8192) :
    ∀ (d i fr : Nat) (st : ByteArray), target.size - i ≤ d → fr ≤ i → i ≤ target.size → st.data.toList = makeL base target i fr →
      applyL base target.size st (cutL target 0 fr) = (target, 0) := by
  have hend : ∀ (i fr : Nat) (st : ByteArray), ¬ i + 8 ≤ target.size → fr ≤ target.size → st.data.toList = makeL base target i fr → applyL base target.size st (cutL target 0 fr) = (target, 0) := by
    intro i fr st h hf hs
    rw [makeL_end h] at hs
    obtain ⟨st', h1, h2⟩ := apply_ins (base := base) (y := []) ht hf (Nat.le_refl _) (by rw [List.append_nil]; exact hs)
    have hz : st'.size = 0 := by rw [← toList_length, h2]; rfl
    rw [h1, applyL_end hz, cutL_all, toList_length, if_pos rfl, mk_toList]
  intro d
  induction d with
  | zero =>
    intro i fr st hd hf hi hs
    exact hend i fr st (by omega) (by omega) hs
  | succ d ih =>
    intro i fr st hd hf hi hs
    by_cases h : i + 8 ≤ target.size
    · cases hm : matchF base target i with
      | none =>
        rw [makeL_none h hm] at hs
        exact ih (i + 1) fr st (by omega) (by omega) (by omega) hs
      | some p =>
        obtain ⟨k, n⟩ := p
        obtain ⟨h12, hn, hk, hcut⟩ := matchF_some hm
        rw [makeL_some h hm] at hs
        obtain ⟨st1, h1, h2⟩ := apply_ins (base := base) ht hf hi hs
        obtain ⟨st2, h3, h4⟩ := step_copy (base := base) (will := target.size) (l := cutL target 0 i) h2 (by omega) ht hk hb (by rw [cutL_length (Nat.zero_le _) hi]; omega)
        rw [h1, applyL_step (enc_size_pos h2) h3]
        simp only
        rw [hcut, cutL_join (Nat.zero_le _) (by omega)]
        exact ih (i + n) (i + n) st2 (by omega) (Nat.le_refl _) (by omega) h4
    · exact hend i fr st h (by omega) hs
theorem apply_back {base target : ByteArray} (hb : base.size ≤ 8192) (ht : target.size ≤ 8192) : applyF base (makeD base target) = (target, 0) := by
  obtain ⟨s1, e1, h1⟩ := rNum_put (s := makeD base target) (n := base.size) (by omega) (by rw [makeD, toList_mk])
  obtain ⟨s2, e2, h2⟩ := rNum_put (s := s1) (n := target.size) (by omega) h1
  unfold applyF
  rw [e1]
  simp only
  rw [e2]
  simp only
  rw [if_neg (by simp), if_neg (by simp), if_neg (by omega)]
  have := apply_make hb ht target.size 0 0 s2 (by omega) (by omega) (by omega) h2
  rw [cutL_same] at this
  exact this
theorem apply_other {base target b : ByteArray} (hb : base.size ≤ 8192) (ht : target.size ≤ 8192) (h : b.size ≠ base.size) : applyF b (makeD base target) = (⟨#[]⟩, 11) := by
  obtain ⟨s1, e1, h1⟩ := rNum_put (s := makeD base target) (n := base.size) (by omega) (by rw [makeD, toList_mk])
  obtain ⟨s2, e2, h2⟩ := rNum_put (s := s1) (n := target.size) (by omega) h1
  unfold applyF
  rw [e1]
  simp only
  rw [e2]
  simp only
  rw [if_neg (by simp), if_pos (by omega)]
/-- An example: what the statements' helper asks. -/
theorem apply_abc : applyF ⟨#[97, 98, 99]⟩ ⟨#[3, 2, 5, 1]⟩ = (⟨#[98, 99]⟩, 0) := by
  have e1 : rNum (⟨#[3, 2, 5, 1]⟩, 0) = (3, (⟨#[2, 5, 1]⟩, 0)) := by decide +kernel
  have e2 : rNum (⟨#[2, 5, 1]⟩, 0) = (2, (⟨#[5, 1]⟩, 0)) := by decide +kernel
  have e3 : stepF ⟨#[97, 98, 99]⟩ 2 ⟨#[5, 1]⟩ [] = .inr (⟨#[]⟩, [98, 99]) := by decide +kernel
  unfold applyF
  rw [e1]
  simp only
  rw [e2]
  simp only
  rw [if_neg (by simp), if_neg (by decide), if_neg (by decide), applyL_step (by decide) e3, applyL_end rfl]
  rfl
end Go.Proofs.Ytnggcldpojebkaa
