/- Slices whose elements are structs of k cells, whatever the struct. -/
import Derived.Test.YtinhjnbgblieeaaDoorSlice
namespace Go.Proofs.YtinhjnbgblieeaaDoor
open Go.RowKit
set_option linter.unusedVariables false
set_option linter.unusedSimpArgs false

section
variable {α : Type} {k : Nat} {f : α → List Value}
def gvs (f : α → List Value) (l : List α) : List Value := l.flatMap f
theorem gvs_length (hk : ∀ x, (f x).length = k) (l : List α) : (gvs f l).length = l.length * k := by
  induction l with
  | nil => simp [gvs]
  | cons x l ih => rw [gvs, List.flatMap_cons, List.length_append, ← gvs, ih, hk, List.length_cons, Nat.add_mul]; omega
theorem gvs_append (a b : List α) : gvs f (a ++ b) = gvs f a ++ gvs f b := by simp [gvs]
theorem gvs_cons (x : α) (b : List α) : gvs f (x :: b) = f x ++ gvs f b := by simp [gvs]
theorem gvs_take (hk : ∀ x, (f x).length = k) (l : List α) (n : Nat) : (gvs f l).take (n * k) = gvs f (l.take n) := by
  induction l generalizing n with
  | nil => simp [gvs]
  | cons x l ih =>
    cases n with
    | zero => simp [gvs]
    | succ n =>
      rw [gvs_cons, List.take_succ_cons, gvs_cons, ← ih n, List.take_append, hk]
      rw [List.take_of_length_le (by rw [hk, Nat.add_mul]; omega), show (n + 1) * k - k = n * k by rw [Nat.add_mul]; omega]
theorem gvs_drop (hk : ∀ x, (f x).length = k) (l : List α) (n : Nat) : (gvs f l).drop (n * k) = gvs f (l.drop n) := by
  induction l generalizing n with
  | nil => simp [gvs]
  | cons x l ih =>
    cases n with
    | zero => simp
    | succ n =>
      rw [gvs_cons, List.drop_succ_cons, ← ih n, List.drop_append, hk]
      rw [List.drop_of_length_le (by rw [hk, Nat.add_mul]; omega), show (n + 1) * k - k = n * k by rw [Nat.add_mul]; omega, List.nil_append]
theorem gvs_get (hk : ∀ x, (f x).length = k) (l : List α) (i : Nat) (d : α) (h : i < l.length) (r : Nat) (hr : r < k) : (gvs f l)[i * k + r]? = (f (l.getD i d))[r]? := by
  induction l generalizing i with
  | nil => cases h
  | cons x l ih =>
    cases i with
    | zero => rw [gvs_cons, Nat.zero_mul, Nat.zero_add, List.getElem?_append_left (by rw [hk]; exact hr)]; rfl
    | succ i =>
      rw [gvs_cons, List.getElem?_append_right (by rw [hk, Nat.add_mul]; omega), hk, show (i + 1) * k + r - k = i * k + r by rw [Nat.add_mul]; omega, ih i (by simpa using h)]
      rfl
theorem gvs_one (h1 : ∀ x, ∀ y ∈ f x, y.oneCell' = true) (l : List α) : ∀ y ∈ gvs f l, y.oneCell' = true := by
  intro y hy
  obtain ⟨x, _, hx⟩ := List.mem_flatMap.1 hy
  exact h1 x y hx
/-- A slice that reads as a list of structs. -/
def rdG (k : Nat) (f : α → List Value) (w : World) (v : Value) (l : List α) : Prop := rdRow w k v l.length (gvs f l)
theorem rdG.below {w w' : World} {v : Value} {l : List α} (h : rdG k f w v l) (hb : Below w.heap.size w w') : rdG k f w' v l := rdRow.below h hb
theorem rdG_nil (w : World) : rdG k f w (.slice none 0 0) [] := ⟨by simp [gvs], none, 0, rfl, Nat.le_refl _, by decide, fun _ => rfl, fun _ h => by cases h⟩
theorem rdG_len {w : World} {v : Value} {l : List α} (hr : rdG k f w v l) : l.length ≤ 9223372036854775807 := by
  obtain ⟨_, ao, cap, rfl, h1, h2, _⟩ := hr
  unfold maxLen at h2; omega
theorem rdG_owns {w : World} {B : Nat} {e : TypeId} {v : Value} {l : List α} (h : w.ownsRow B e k v l.length (gvs f l)) : rdG k f w v l := rdRow_of_owns h
theorem rdG_at (hk : ∀ x, (f x).length = k) (hk0 : 0 < k) {w : World} {ao : Option Addr} {n cap : Nat} {l : List α} (d : α) (hr : rdRow w k (.slice ao n cap) l.length (gvs f l)) (h : 0 < l.length) :
    ∃ b off, ao = some ⟨b, off, none⟩ ∧ b < w.heap.size ∧ ∀ i, i < l.length → ∀ r u, (f (l.getD i d))[r]? = some u → w.cell? ⟨b, off + (i * k + r), none⟩ = some u := by
  have hlen := gvs_length hk l
  have h0 : 0 < (gvs f l).length := by rw [hlen]; exact Nat.mul_pos h hk0
  obtain ⟨b, off, cap', hv, hc0, hb⟩ := rd_cell hr 0 _ (List.getElem?_eq_getElem h0)
  injection hv with h1 h2 h3
  subst h1
  refine ⟨b, off, rfl, hb, fun i hi r u hu => ?_⟩
  obtain ⟨_, ao2, cap2, hv2, _, _, _, hc⟩ := hr
  injection hv2 with g1 g2 g3
  subst g1
  have hr' : r < k := by have := (List.getElem?_eq_some_iff.1 hu).1; rw [hk] at this; exact this
  have e0 := gvs_get hk l i d hi r hr'
  rw [hu] at e0
  have c0 := hc _ rfl _ _ e0
  rw [add_none rfl] at c0
  exact c0
theorem rdG_to (hk : ∀ x, (f x).length = k) {P : Program} {w : World} {v : Value} {l : List α} {t e : TypeId} (ht : P.underlying t = some (.slice e)) (hi : (P.info? e).map (·.size) = some k) (hr : rdG k f w v l) (n : Nat) (hn : n ≤ l.length) :
    ∃ v', (∀ w' : World, (Instr.sliceAt t v none (some (.int .i64 (n : Int))) none).run P w' = .ok v' w') ∧ rdG k f w v' (l.take n) := by
  obtain ⟨v', h1, h2⟩ := slice_to ht hi hr n hn
  refine ⟨v', h1, ?_⟩
  rw [gvs_take hk] at h2
  have : (l.take n).length = n := by rw [List.length_take]; omega
  unfold rdG; rw [this]; exact h2
theorem rdG_from (hk : ∀ x, (f x).length = k) {P : Program} {w : World} {v : Value} {l : List α} {t e : TypeId} (ht : P.underlying t = some (.slice e)) (hi : (P.info? e).map (·.size) = some k) (hr : rdG k f w v l) (n : Nat) (hn : n ≤ l.length) :
    ∃ v', (∀ w' : World, (Instr.sliceAt t v (some (.int .i64 (n : Int))) none none).run P w' = .ok v' w') ∧ rdG k f w v' (l.drop n) := by
  obtain ⟨v', h1, h2⟩ := slice_from ht hi hr n hn
  refine ⟨v', h1, ?_⟩
  rw [gvs_drop hk] at h2
  unfold rdG; rw [List.length_drop]; exact h2
end
end Go.Proofs.YtinhjnbgblieeaaDoor
