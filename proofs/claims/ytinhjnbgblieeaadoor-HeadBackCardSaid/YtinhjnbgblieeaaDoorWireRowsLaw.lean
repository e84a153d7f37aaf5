/- Plain laws of what a writer puts and a reader gives. -/
import Derived.Test.YtinhjnbgblieeaaDoorWireWriter
import Derived.Test.YtinhjnbgblieeaaDoorWireReader
namespace Go.Proofs.YtinhjnbgblieeaaDoor
open Go.RowKit
set_option linter.unusedVariables false

/-- What the writer holds behind k rounds. -/
def rowsW (ns : List Int) (ts : List ByteArray) : Nat → List UInt8 × Int
  | 0 => ([], 0)
  | k + 1 =>
    let st := match ns[k]? with | some n => wNum (rowsW ns ts k) n | none => rowsW ns ts k
    match ts[k]? with | some t => wTxt st t | none => st

def halfW (ns : List Int) (ts : List ByteArray) (k : Nat) : List UInt8 × Int := match ns[k]? with | some n => wNum (rowsW ns ts k) n | none => rowsW ns ts k
theorem rowsW_succ (ns : List Int) (ts : List ByteArray) (k : Nat) : rowsW ns ts (k + 1) = match ts[k]? with | some t => wTxt (halfW ns ts k) t | none => halfW ns ts k := rfl

theorem wNum_len (st : List UInt8 × Int) (n : Int) : (wNum st n).1.length ≤ st.1.length + 9 := by
  unfold wNum
  split
  · omega
  · split
    · rename_i h; have := enc_len9 n.toNat (by omega); simp; omega
    · simp
theorem wTxt_len (st : List UInt8 × Int) (t : ByteArray) : (wTxt st t).1.length ≤ st.1.length + 4105 := by
  unfold wTxt
  split
  · omega
  · split
    · have := enc_len9 t.size (by omega); simp; omega
    · simp
theorem halfW_len (ns : List Int) (ts : List ByteArray) (k : Nat) : (halfW ns ts k).1.length ≤ (rowsW ns ts k).1.length + 9 := by
  unfold halfW
  cases ns[k]? with
  | none => simp
  | some n => exact wNum_len _ _
theorem rowsW_len (ns : List Int) (ts : List ByteArray) : ∀ k, (rowsW ns ts k).1.length ≤ k * 4114
  | 0 => by simp [rowsW]
  | k + 1 => by
    have h1 := rowsW_len ns ts k
    have h2 := halfW_len ns ts k
    rw [rowsW_succ]
    cases ts[k]? with
    | none => simp only; omega
    | some t => have := wTxt_len (halfW ns ts k) t; simp only; omega

/-- What was put without an error is a beginning of what is put later without one. -/
def Goes (a b : List UInt8 × Int) : Prop := b.2 = 0 → a.2 = 0 ∧ ∃ x, b.1 = a.1 ++ x
theorem Goes.refl (a : List UInt8 × Int) : Goes a a := fun h => ⟨h, [], by simp⟩
theorem Goes.trans {a b c : List UInt8 × Int} (h : Goes a b) (k : Goes b c) : Goes a c := fun hc => by
  obtain ⟨hb, y, hy⟩ := k hc
  obtain ⟨ha, x, hx⟩ := h hb
  exact ⟨ha, x ++ y, by rw [hy, hx, List.append_assoc]⟩
theorem goes_num (st : List UInt8 × Int) (n : Int) : Goes st (wNum st n) := by
  intro h
  unfold wNum at *
  by_cases he : st.2 = 0
  · rw [if_neg (by simpa using he)] at *
    by_cases hn : 0 ≤ n ∧ n < 4611686018427387904
    · rw [if_pos hn] at *; exact ⟨he, _, rfl⟩
    · rw [if_neg hn] at h; simp at h
  · rw [if_pos he] at h; exact absurd h he
theorem goes_txt (st : List UInt8 × Int) (t : ByteArray) : Goes st (wTxt st t) := by
  intro h
  unfold wTxt at *
  by_cases he : st.2 = 0
  · rw [if_neg (by simpa using he)] at *
    by_cases hn : t.size ≤ 4096
    · rw [if_pos hn] at *; exact ⟨he, _, rfl⟩
    · rw [if_neg hn] at h; simp at h
  · rw [if_pos he] at h; exact absurd h he
theorem goes_half (ns : List Int) (ts : List ByteArray) (k : Nat) : Goes (rowsW ns ts k) (halfW ns ts k) := by
  unfold halfW
  cases ns[k]? with
  | none => exact Goes.refl _
  | some n => exact goes_num _ _
theorem goes_full (ns : List Int) (ts : List ByteArray) (k : Nat) : Goes (halfW ns ts k) (rowsW ns ts (k + 1)) := by
  rw [rowsW_succ]
  cases ts[k]? with
  | none => exact Goes.refl _
  | some n => exact goes_txt _ _
theorem goes_all (ns : List Int) (ts : List ByteArray) (k : Nat) : ∀ d, Goes (rowsW ns ts k) (rowsW ns ts (k + d))
  | 0 => Goes.refl _
  | d + 1 => (goes_all ns ts k d).trans ((goes_half ns ts (k + d)).trans (goes_full ns ts (k + d)))

/-- A number that was put is read, and what stands behind it is left. -/
theorem rNum_back {s : ByteArray} {n : Int} {y : List UInt8} (h0 : 0 ≤ n) (h1 : n < 4611686018427387904) (hs : s.data.toList = enc n.toNat ++ y) :
    ((rNum (s, 0)).1 : Int) = n ∧ (rNum (s, 0)).2.2 = 0 ∧ (rNum (s, 0)).2.1.data.toList = y := by
  have hg : get s.data.toList = some (n.toNat, (enc n.toNat).length) := by rw [hs]; exact get_enc _ _ (by omega)
  unfold rNum
  simp only [hg]
  refine ⟨by simp; omega, by simp, ?_⟩
  simp only [ne_eq, not_true_eq_false, if_false]
  rw [toList_drop, hs, List.drop_left' rfl]
theorem rTxt_back {s t : ByteArray} {y : List UInt8} (ht : t.size ≤ 4096) (hs : s.data.toList = (enc t.size ++ t.data.toList) ++ y) :
    (rTxt (s, 0)).1 = t ∧ (rTxt (s, 0)).2.2 = 0 ∧ (rTxt (s, 0)).2.1.data.toList = y := by
  have hz : s.size = (enc t.size).length + t.size + y.length := by rw [← toList_length, hs]; simp; omega
  have hg : getText s = (t, (enc t.size).length + t.size, 0) := by
    rw [getText, hs, List.append_assoc, get_enc _ _ (by omega)]
    simp only
    rw [if_neg (by omega), if_neg (by omega)]
    have e : s.extract (enc t.size).length ((enc t.size).length + t.size) = t := by
      apply bs_ext
      rw [toList_extract, hs, List.append_assoc, List.drop_left' rfl, Nat.add_sub_cancel_left, List.take_left' (toList_length t)]
    rw [e]
  unfold rTxt
  simp only [hg, ne_eq, not_true_eq_false, if_false]
  refine ⟨trivial, rfl, ?_⟩
  rw [toList_drop, hs, List.drop_left' (by simp)]

/-- Where the round puts a number, it is one that is read. -/
theorem half_num {ns : List Int} {ts : List ByteArray} {k : Nat} {n : Int} (hn : ns[k]? = some n) (h : (halfW ns ts k).2 = 0) :
    0 ≤ n ∧ n < 4611686018427387904 ∧ (halfW ns ts k).1 = (rowsW ns ts k).1 ++ enc n.toNat := by
  unfold halfW at *
  simp only [hn] at *
  unfold wNum at *
  by_cases he : (rowsW ns ts k).2 = 0
  · rw [if_neg (by simpa using he)] at *
    by_cases hn : 0 ≤ n ∧ n < 4611686018427387904
    · rw [if_pos hn]; exact ⟨hn.1, hn.2, rfl⟩
    · rw [if_neg hn] at h; simp at h
  · rw [if_pos he] at h; exact absurd h he
theorem full_txt {ns : List Int} {ts : List ByteArray} {k : Nat} {t : ByteArray} (hn : ts[k]? = some t) (h : (rowsW ns ts (k + 1)).2 = 0) :
    t.size ≤ 4096 ∧ (rowsW ns ts (k + 1)).1 = (halfW ns ts k).1 ++ (enc t.size ++ t.data.toList) := by
  rw [rowsW_succ] at *
  simp only [hn] at *
  unfold wTxt at *
  by_cases he : (halfW ns ts k).2 = 0
  · rw [if_neg (by simpa using he)] at *
    by_cases hn : t.size ≤ 4096
    · rw [if_pos hn]; exact ⟨hn, rfl⟩
    · rw [if_neg hn] at h; simp at h
  · rw [if_pos he] at h; exact absurd h he

theorem back_num {ns : List Int} {ts : List ByteArray} {N k : Nat} {x : Int} {s : ByteArray} {more : List UInt8} (hN : (rowsW ns ts N).2 = 0) (hk : k < N) (hx : ns[k]? = some x)
    (hs : s.data.toList = ((rowsW ns ts N).1 ++ more).drop (rowsW ns ts k).1.length) :
    ∃ (m : Nat) (s' : ByteArray), rNum (s, 0) = (m, (s', 0)) ∧ (m : Int) = x ∧ s'.data.toList = ((rowsW ns ts N).1 ++ more).drop (halfW ns ts k).1.length := by
  obtain ⟨d, rfl⟩ : ∃ d, N = (k + 1) + d := ⟨N - (k + 1), by omega⟩
  obtain ⟨h1, y, hy⟩ := ((goes_full ns ts k).trans (goes_all ns ts (k + 1) d)) hN
  obtain ⟨h0, h2, h3⟩ := half_num hx h1
  have e : s.data.toList = enc x.toNat ++ (y ++ more) := by
    rw [hs, hy, h3, List.append_assoc, List.append_assoc, List.drop_left' rfl]
  obtain ⟨a, b, c⟩ := rNum_back h0 h2 e
  refine ⟨_, _, Prod.ext rfl (Prod.ext rfl b), a, ?_⟩
  rw [c, hy, List.append_assoc, List.drop_left' rfl]

theorem back_txt {ns : List Int} {ts : List ByteArray} {N k : Nat} {x : ByteArray} {s : ByteArray} {more : List UInt8} (hN : (rowsW ns ts N).2 = 0) (hk : k < N) (hx : ts[k]? = some x)
    (hs : s.data.toList = ((rowsW ns ts N).1 ++ more).drop (halfW ns ts k).1.length) :
    ∃ s' : ByteArray, rTxt (s, 0) = (x, (s', 0)) ∧ s'.data.toList = ((rowsW ns ts N).1 ++ more).drop (rowsW ns ts (k + 1)).1.length := by
  obtain ⟨d, rfl⟩ : ∃ d, N = (k + 1) + d := ⟨N - (k + 1), by omega⟩
  obtain ⟨h1, y, hy⟩ := goes_all ns ts (k + 1) d hN
  obtain ⟨h2, h3⟩ := full_txt hx h1
  have e : s.data.toList = (enc x.size ++ x.data.toList) ++ (y ++ more) := by
    rw [hs, hy, h3, List.append_assoc, List.append_assoc, List.drop_left' rfl]
  obtain ⟨a, b, c⟩ := rTxt_back h2 e
  refine ⟨_, Prod.ext a (Prod.ext rfl b), ?_⟩
  rw [c, hy, List.append_assoc, List.drop_left' rfl]

end Go.Proofs.YtinhjnbgblieeaaDoor
