/- What Unhex answers, and that it undoes Hex. -/
import Derived.Test.YtmacceamebdelaaDoorSha
namespace Go.Proofs.YtmacceamebdelaaDoor
open Go.RowKit
set_option linter.unusedVariables false
set_option linter.unusedSimpArgs false

/-- What a digit counts. -/
def digF (c : Nat) : Nat := if 48 ≤ c ∧ c ≤ 57 then c - 48 else if 97 ≤ c ∧ c ≤ 102 then c - 87 else 16
theorem digF_le (c : Nat) : digF c ≤ 16 := by unfold digF; split <;> (try split) <;> omega
def atB (s : ByteArray) (i : Nat) : Nat := (s.data.toList.getD i 0).toNat
/-- Is pair j of two digits? -/
def okP (s : ByteArray) (j : Nat) : Bool := decide (digF (atB s (2 * j)) ≤ 15) && decide (digF (atB s (2 * j + 1)) ≤ 15)
/-- The byte of pair j. -/
def valP (s : ByteArray) (j : Nat) : UInt8 := UInt8.ofNat (16 * digF (atB s (2 * j)) + digF (atB s (2 * j + 1)))
def unL (s : ByteArray) (k : Nat) : List UInt8 := (List.range k).map (valP s)
def unOk (s : ByteArray) : Bool := decide (s.size % 2 = 0) && (List.range (s.size / 2)).all (okP s)
def unR (s : ByteArray) : ByteArray := if unOk s then ⟨(unL s (s.size / 2)).toArray⟩ else ⟨#[]⟩
def unE (s : ByteArray) : Int := if unOk s then 0 else 2
theorem unL_length (s : ByteArray) (k : Nat) : (unL s k).length = k := by simp [unL]
theorem unL_succ (s : ByteArray) (k : Nat) : unL s (k + 1) = unL s k ++ [valP s k] := by simp [unL, List.range_succ]
theorem un_odd {s : ByteArray} (h : s.size % 2 ≠ 0) : unR s = ⟨#[]⟩ ∧ unE s = 2 := by
  have : unOk s = false := by simp [unOk, h]
  simp [unR, unE, this]
theorem un_bad {s : ByteArray} {k : Nat} (hk : k < s.size / 2) (h : okP s k = false) : unR s = ⟨#[]⟩ ∧ unE s = 2 := by
  have : unOk s = false := by
    simp only [unOk, Bool.and_eq_false_iff]
    right
    simp only [List.all_eq_false, List.mem_range]
    exact ⟨k, hk, by simp [h]⟩
  simp [unR, unE, this]
theorem un_good {s : ByteArray} (h0 : s.size % 2 = 0) (h : ∀ j, j < s.size / 2 → okP s j = true) : unR s = ⟨(unL s (s.size / 2)).toArray⟩ ∧ unE s = 0 := by
  have : unOk s = true := by
    simp only [unOk, Bool.and_eq_true, decide_eq_true_eq]
    exact ⟨h0, by simp only [List.all_eq_true, List.mem_range]; exact h⟩
  simp [unR, unE, this]
theorem nib_val (a b : Nat) (ha : a ≤ 15) (hb : b ≤ 15) : bits .or .u8 ((a : Int) * 16 % 256) (b : Int) = ((16 * a + b : Nat) : Int) := by
  have e : (a : Int) * 16 % 256 = ((16 * a : Nat) : Int) := by omega
  rw [e, u8_or_nat _ _ (by omega) (by omega)]
  congr 1
  have : ∀ a, a ≤ 15 → ∀ b, b ≤ 15 → (16 * a ||| b) = 16 * a + b := by decide +kernel
  exact this a ha b hb
theorem valP_val {s : ByteArray} {j : Nat} (h : okP s j = true) : ((valP s j).toNat : Int) = ((16 * digF (atB s (2 * j)) + digF (atB s (2 * j + 1)) : Nat) : Int) := by
  simp only [okP, Bool.and_eq_true, decide_eq_true_eq] at h
  unfold valP
  rw [UInt8.toNat_ofNat_of_lt' (by simp [UInt8.size]; omega)]

/-! Hex and back. -/
theorem dg_digF (n : Nat) (h : n < 16) : digF (dg n).toNat = n := by
  have : ∀ n, n < 16 → digF (dg n).toNat = n := by decide +kernel
  exact this n h
theorem digF_dg (c : Nat) (hc : c < 256) (h : digF c ≤ 15) : (dg (digF c)).toNat = c := by
  have : ∀ c, c < 256 → digF c ≤ 15 → (dg (digF c)).toNat = c := by decide +kernel
  exact this c hc h
theorem hexL_length (l : List UInt8) : (hexL l).length = 2 * l.length := by
  induction l with
  | nil => rfl
  | cons c l ih => show ([dg (c.toNat / 16), dg (c.toNat % 16)] ++ hexL l).length = _; rw [List.length_append, ih]; simp; omega
theorem hexF_size (b : ByteArray) : (hexF b).size = 2 * b.size := by
  show (hexL b.data.toList).toArray.size = _
  rw [List.size_toArray, hexL_length, toList_length]
theorem hexL_at (l : List UInt8) : ∀ j, j < l.length → (hexL l).getD (2 * j) 0 = dg ((l.getD j 0).toNat / 16) ∧ (hexL l).getD (2 * j + 1) 0 = dg ((l.getD j 0).toNat % 16) := by
  induction l with
  | nil => intro j hj; simp at hj
  | cons c l ih =>
    intro j hj
    have e : hexL (c :: l) = dg (c.toNat / 16) :: dg (c.toNat % 16) :: hexL l := rfl
    rw [e]
    cases j with
    | zero => exact ⟨rfl, rfl⟩
    | succ j =>
      have := ih j (by simpa using hj)
      rw [show 2 * (j + 1) = 2 * j + 1 + 1 by omega]
      simpa using this
theorem list_ext_getD {l m : List UInt8} (hl : l.length = m.length) (h : ∀ i, i < l.length → l.getD i 0 = m.getD i 0) : l = m := by
  apply List.ext_getElem hl
  intro i h1 h2
  have := h i h1
  rwa [List.getD, List.getD, List.getElem?_eq_getElem h1, List.getElem?_eq_getElem h2] at this
theorem unL_at (s : ByteArray) (k i : Nat) (h : i < k) : (unL s k).getD i 0 = valP s i := by simp [unL, List.getD, h]
theorem hexF_at (b : ByteArray) (j : Nat) (h : j < b.size) : atB (hexF b) (2 * j) = (dg ((b.data.toList.getD j 0).toNat / 16)).toNat ∧ atB (hexF b) (2 * j + 1) = (dg ((b.data.toList.getD j 0).toNat % 16)).toNat := by
  have := hexL_at b.data.toList j (by rw [toList_length]; exact h)
  exact ⟨congrArg UInt8.toNat this.1, congrArg UInt8.toNat this.2⟩
theorem un_hex (b : ByteArray) : unR (hexF b) = b ∧ unE (hexF b) = 0 := by
  have hs := hexF_size b
  have hp : ∀ j, j < b.size → digF (atB (hexF b) (2 * j)) = (b.data.toList.getD j 0).toNat / 16 ∧ digF (atB (hexF b) (2 * j + 1)) = (b.data.toList.getD j 0).toNat % 16 := by
    intro j hj
    have h := hexF_at b j hj
    have hc := UInt8.toNat_lt (b.data.toList.getD j 0)
    rw [h.1, h.2, dg_digF _ (by omega), dg_digF _ (by omega)]
    exact ⟨rfl, rfl⟩
  have hg := un_good (s := hexF b) (by omega) (fun j hj => by
    have hj' : j < b.size := by omega
    have hc := UInt8.toNat_lt (b.data.toList.getD j 0)
    simp only [okP, Bool.and_eq_true, decide_eq_true_eq, (hp j hj').1, (hp j hj').2]
    omega)
  refine ⟨?_, hg.2⟩
  rw [hg.1, hs, show 2 * b.size / 2 = b.size by omega]
  apply bs_ext
  show unL (hexF b) b.size = b.data.toList
  apply list_ext_getD (by rw [unL_length, toList_length])
  intro i hi
  rw [unL_length] at hi
  rw [unL_at _ _ _ hi, valP, (hp i hi).1, (hp i hi).2, Nat.div_add_mod]
  simp
theorem unR_size (s : ByteArray) : (unR s).size ≤ s.size / 2 := by
  unfold unR
  split
  · show (unL s (s.size / 2)).toArray.size ≤ _
    rw [List.size_toArray, unL_length]; exact Nat.le_refl _
  · exact Nat.zero_le _
theorem hex_un {s : ByteArray} (h : unE s = 0) : hexF (unR s) = s := by
  have hk : unOk s = true := by
    unfold unE at h
    split at h
    · assumption
    · cases h
  have hk' := hk
  simp only [unOk, Bool.and_eq_true, decide_eq_true_eq, List.all_eq_true, List.mem_range] at hk'
  obtain ⟨he, hall⟩ := hk'
  have hu : unR s = ⟨(unL s (s.size / 2)).toArray⟩ := (un_good he hall).1
  have hsz : (unR s).size = s.size / 2 := by rw [hu]; show (unL s (s.size / 2)).toArray.size = _; rw [List.size_toArray, unL_length]
  apply bs_ext
  have hl : (hexF (unR s)).data.toList.length = s.data.toList.length := by rw [toList_length, toList_length, hexF_size, hsz]; omega
  apply list_ext_getD hl
  intro i hi
  rw [toList_length, hexF_size, hsz] at hi
  have hj : i / 2 < s.size / 2 := by omega
  have hat := hexF_at (unR s) (i / 2) (by rw [hsz]; exact hj)
  have hv : (unR s).data.toList.getD (i / 2) 0 = valP s (i / 2) := by rw [hu]; exact unL_at s _ _ hj
  have hok := hall (i / 2) hj
  have hvv : (valP s (i / 2)).toNat = 16 * digF (atB s (2 * (i / 2))) + digF (atB s (2 * (i / 2) + 1)) := by have := valP_val hok; omega
  simp only [okP, Bool.and_eq_true, decide_eq_true_eq] at hok
  rw [hv, hvv] at hat
  have hq : (16 * digF (atB s (2 * (i / 2))) + digF (atB s (2 * (i / 2) + 1))) / 16 = digF (atB s (2 * (i / 2))) := by omega
  have hr : (16 * digF (atB s (2 * (i / 2))) + digF (atB s (2 * (i / 2) + 1))) % 16 = digF (atB s (2 * (i / 2) + 1)) := by omega
  rw [hq, hr, digF_dg (atB s (2 * (i / 2))) (UInt8.toNat_lt _) hok.1, digF_dg (atB s (2 * (i / 2) + 1)) (UInt8.toNat_lt _) hok.2] at hat
  have fin : ∀ k, k = i → atB (hexF (unR s)) k = atB s k → (hexF (unR s)).data.toList.getD i 0 = s.data.toList.getD i 0 := fun k hk h => by
    subst hk; exact UInt8.toNat.inj h
  by_cases h2 : i % 2 = 0
  · exact fin (2 * (i / 2)) (by omega) hat.1
  · exact fin (2 * (i / 2) + 1) (by omega) hat.2
end Go.Proofs.YtmacceamebdelaaDoor
