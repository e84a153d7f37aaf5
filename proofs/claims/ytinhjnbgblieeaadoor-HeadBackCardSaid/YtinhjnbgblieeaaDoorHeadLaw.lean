/- Heads in plain Lean: what Good, Text and Read come to, and their laws. -/
import Derived.Test.YtinhjnbgblieeaaDoorObjectLaw
namespace Go.Proofs.YtinhjnbgblieeaaDoor
set_option linter.unusedVariables false
set_option linter.unusedSimpArgs false

def goodH (n : Int) (r : ByteArray) : Int := if n < 0 ∨ 200 < n then 3 else if r.size ≠ 32 then 2 else 0
def headB (n : Int) (r : ByteArray) : ByteArray := ⟨(enc n.toNat ++ r.data.toList).toArray⟩
def textF (n : Int) (r : ByteArray) : ByteArray × Int := if goodH n r ≠ 0 then (noB, goodH n r) else (headB n r, 0)
def hrdA (b : ByteArray) : Nat × (ByteArray × Int) := rNum (b, 0)
def hrdB (b : ByteArray) : ByteArray × (ByteArray × Int) := rByt (hrdA b).2 32
/-- What Read gives: size, root, error. -/
def hreadF (b : ByteArray) : (Int × ByteArray) × Int :=
  if (hrdB b).2.2 ≠ 0 ∨ 0 < (hrdB b).2.1.size then ((0, noB), 2) else
  if goodH (hrdA b).1 (hrdB b).1 ≠ 0 then ((0, noB), goodH (hrdA b).1 (hrdB b).1) else (((hrdA b).1, (hrdB b).1), 0)
theorem goodH_ok {n : Int} {r : ByteArray} (h : goodH n r = 0) : 0 ≤ n ∧ n ≤ 200 ∧ r.size = 32 := by
  unfold goodH at h
  by_cases a : n < 0 ∨ 200 < n
  · rw [if_pos a] at h; exact absurd h (by decide)
  · rw [if_neg a] at h
    by_cases b : r.size ≠ 32
    · rw [if_pos b] at h; exact absurd h (by decide)
    · exact ⟨by omega, by omega, by omega⟩
theorem goodH_of {n : Int} {r : ByteArray} (h : 0 ≤ n) (h1 : n ≤ 200) (h2 : r.size = 32) : goodH n r = 0 := by
  unfold goodH
  rw [if_neg (by omega), if_neg (by omega)]
theorem textF_ok {n : Int} {r : ByteArray} (h : goodH n r = 0) : textF n r = (headB n r, 0) := by
  unfold textF
  rw [if_neg (fun k => k h)]
theorem textF_inv {n : Int} {r : ByteArray} (h : (textF n r).2 = 0) : goodH n r = 0 := by
  unfold textF at h
  by_cases g : goodH n r = 0
  · exact g
  · rw [if_pos g] at h; exact absurd h g
theorem headB_size {n : Int} {r : ByteArray} (h : goodH n r = 0) : (headB n r).size ≤ 41 := by
  obtain ⟨h0, h1, h2⟩ := goodH_ok h
  rw [← toList_length, headB, toList_mk, List.length_append, toList_length, h2]
  have := enc_len9 n.toNat (by omega)
  omega
theorem read_text {n : Int} {r : ByteArray} (h : goodH n r = 0) : hreadF (headB n r) = ((n, r), 0) := by
  obtain ⟨h0, h1, h2⟩ := goodH_ok h
  have hs : (headB n r).data.toList = enc n.toNat ++ r.data.toList := rfl
  obtain ⟨e1, e2⟩ : ∃ s', rNum (headB n r, 0) = (n.toNat, (s', 0)) ∧ s'.data.toList = r.data.toList := rNum_fwd (by omega) hs
  obtain ⟨e3, e4⟩ := e2
  obtain ⟨s2, e5, e6⟩ : ∃ s', rByt (e1, 0) 32 = (r, (s', 0)) ∧ s'.data.toList = [] := rByt_fwd h2 (by rw [e4]; simp)
  have a1 : hrdA (headB n r) = (n.toNat, (e1, 0)) := e3
  have a2 : hrdB (headB n r) = (r, (s2, 0)) := by unfold hrdB; rw [a1]; exact e5
  have hz : s2.size = 0 := by rw [← toList_length, e6]; rfl
  unfold hreadF
  rw [a2, a1]
  have hn : ((n.toNat : Nat) : Int) = n := by omega
  simp only [hn, h, hz]
  simp
theorem read_more {n : Int} {r : ByteArray} (x : UInt8) (h : goodH n r = 0) : hreadF (headB n r ++ ⟨#[x]⟩) = ((0, noB), 2) := by
  obtain ⟨h0, h1, h2⟩ := goodH_ok h
  have hs : (headB n r ++ ⟨#[x]⟩ : ByteArray).data.toList = enc n.toNat ++ (r.data.toList ++ [x]) := by rw [toList_append]; simp [headB]
  obtain ⟨e1, e3, e4⟩ : ∃ s', rNum (headB n r ++ ⟨#[x]⟩, 0) = (n.toNat, (s', 0)) ∧ s'.data.toList = r.data.toList ++ [x] := rNum_fwd (by omega) hs
  obtain ⟨s2, e5, e6⟩ : ∃ s', rByt (e1, 0) 32 = (r, (s', 0)) ∧ s'.data.toList = [x] := rByt_fwd h2 e4
  have a1 : hrdA (headB n r ++ ⟨#[x]⟩) = (n.toNat, (e1, 0)) := e3
  have a2 : hrdB (headB n r ++ ⟨#[x]⟩) = (r, (s2, 0)) := by unfold hrdB; rw [a1]; exact e5
  have hz : s2.size = 1 := by rw [← toList_length, e6]; rfl
  unfold hreadF
  rw [a2]
  rw [if_pos (.inr (by show 0 < s2.size; omega))]
theorem read_inv {b : ByteArray} (h : (hreadF b).2 = 0) : goodH (hreadF b).1.1 (hreadF b).1.2 = 0 ∧ headB (hreadF b).1.1 (hreadF b).1.2 = b := by
  unfold hreadF at h ⊢
  by_cases c : (hrdB b).2.2 ≠ 0 ∨ 0 < (hrdB b).2.1.size
  · rw [if_pos c] at h; exact absurd h (by decide)
  · rw [if_neg c] at h ⊢
    by_cases g : goodH (hrdA b).1 (hrdB b).1 ≠ 0
    · rw [if_pos g] at h; exact absurd h g
    · rw [if_neg g]
      refine ⟨by simpa using g, ?_⟩
      have hb2 : (hrdB b).2.2 = 0 := by have := c; simp only [not_or] at this; simpa using this.1
      have hz : (hrdB b).2.1.size = 0 := by have := c; simp only [not_or] at this; omega
      have ha2 : (hrdA b).2.2 = 0 := rByt_ok (st := (hrdA b).2) (n := 32) hb2
      have ea : hrdA b = ((hrdA b).1, ((hrdA b).2.1, 0)) := by rw [← ha2]
      have k1 := rNum_bwd (s := b) ha2
      have e2 : rByt ((hrdA b).2.1, 0) 32 = hrdB b := by unfold hrdB; rw [← ha2]
      have k2 := rByt_bwd (s := (hrdA b).2.1) (by rw [e2]; exact hb2)
      rw [e2] at k2
      refine bs_ext ?_
      show enc ((((hrdA b).1 : Nat) : Int)).toNat ++ (hrdB b).1.data.toList = b.data.toList
      rw [Int.toNat_natCast]
      have k3 : b.data.toList = enc (hrdA b).1 ++ (hrdA b).2.1.data.toList := k1.1
      have k4 : (hrdB b).2.1.data.toList = [] := by
        apply List.eq_nil_of_length_eq_zero; rw [toList_length]; exact hz
      rw [k3, k2.1, k4, List.append_nil]
theorem read_bad {b : ByteArray} (h : (hreadF b).2 ≠ 0) : (hreadF b).1 = (0, noB) := by
  unfold hreadF at h ⊢
  by_cases c : (hrdB b).2.2 ≠ 0 ∨ 0 < (hrdB b).2.1.size
  · rw [if_pos c]
  · rw [if_neg c] at h ⊢
    by_cases g : goodH (hrdA b).1 (hrdB b).1 ≠ 0
    · rw [if_pos g]
    · rw [if_neg g] at h; exact absurd rfl h
theorem headB_inj {n m : Int} {r s : ByteArray} (h : goodH n r = 0) (g : goodH m s = 0) (e : headB n r = headB m s) : n = m ∧ r = s := by
  have a := read_text h
  have b := read_text g
  rw [e, b] at a
  simp only [Prod.mk.injEq] at a
  exact ⟨a.1.1.symm, a.1.2.symm⟩
end Go.Proofs.YtinhjnbgblieeaaDoor
