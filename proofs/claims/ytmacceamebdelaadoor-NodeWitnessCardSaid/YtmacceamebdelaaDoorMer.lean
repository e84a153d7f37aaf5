/- Texts put together: MerkleLaw Merkle Merkle2 Merkle3 Merkle4 Merkle5. -/
import Derived.Test.YtmacceamebdelaaDoorSha
import Derived.Test.YtmacceamebdelaaDoorBas
/-! MerkleLaw -/
namespace Go.Proofs.YtmacceamebdelaaDoor
set_option linter.unusedVariables false
set_option linter.unusedSimpArgs false

/-! The split. -/
def halfG : Nat → Nat → Nat → Nat
  | 0, k, _ => k
  | f + 1, k, n => if 2 * k < n then halfG f (2 * k) n else k
def halfF (n : Nat) : Nat := halfG n 1 n
theorem halfG_spec : ∀ (f k n : Nat), 1 ≤ k → k < n → n ≤ k * 2 ^ (f + 1) → k ≤ halfG f k n ∧ halfG f k n < n ∧ n ≤ 2 * halfG f k n ∧ ∃ j, halfG f k n = k * 2 ^ j
  | 0, k, n, h1, h2, h3 => ⟨Nat.le_refl _, h2, by simp [halfG]; omega, 0, by simp [halfG]⟩
  | f + 1, k, n, h1, h2, h3 => by
    unfold halfG
    split
    · rename_i h
      have h3' : n ≤ 2 * k * 2 ^ (f + 1) := by rw [Nat.pow_succ] at h3; rw [Nat.mul_comm 2 k, Nat.mul_assoc, Nat.mul_comm 2]; exact h3
      obtain ⟨a, b, c, j, hj⟩ := halfG_spec f (2 * k) n (by omega) h h3'
      exact ⟨by omega, b, c, j + 1, by rw [hj, Nat.pow_succ, Nat.mul_comm 2 k, Nat.mul_assoc, Nat.mul_comm 2]⟩
    · exact ⟨Nat.le_refl _, h2, by omega, 0, by simp⟩
theorem halfF_spec {n : Nat} (h : 2 ≤ n) : 1 ≤ halfF n ∧ halfF n < n ∧ n ≤ 2 * halfF n ∧ ∃ j, halfF n = 2 ^ j := by
  obtain ⟨a, b, c, j, hj⟩ := halfG_spec n 1 n (Nat.le_refl _) (by omega) (by have := Nat.lt_two_pow_self (n := n); rw [Nat.one_mul, Nat.pow_succ]; omega)
  exact ⟨a, b, c, j, by rw [Nat.one_mul] at hj; exact hj⟩
theorem pow_between {i j m : Nat} (h1 : 2 ^ i < m) (h2 : m ≤ 2 * 2 ^ i) (h3 : 2 ^ j < m) (h4 : m ≤ 2 * 2 ^ j) : i = j := by
  rcases Nat.lt_trichotomy i j with h | h | h
  · have := Nat.pow_le_pow_right (n := 2) (by omega) (show i + 1 ≤ j from h)
    rw [Nat.pow_succ] at this; omega
  · exact h
  · have := Nat.pow_le_pow_right (n := 2) (by omega) (show j + 1 ≤ i from h)
    rw [Nat.pow_succ] at this; omega
theorem halfF_same {n m : Nat} (h : 2 ≤ n) (h1 : halfF n < m) (h2 : m ≤ n) : halfF m = halfF n := by
  obtain ⟨a1, a2, a3, i, hi⟩ := halfF_spec h
  obtain ⟨b1, b2, b3, j, hj⟩ := halfF_spec (n := m) (by omega)
  rw [hi, hj, pow_between (i := i) (j := j) (m := m) (by omega) (by omega) (by omega) (by omega)]
theorem halfF_pow {n d : Nat} (h : 2 ≤ n) (hd : n ≤ 2 ^ (d + 1)) : halfF n ≤ 2 ^ d := by
  obtain ⟨a1, a2, a3, i, hi⟩ := halfF_spec h
  have : i < d + 1 := (Nat.pow_lt_pow_iff_right (a := 2) (by omega)).1 (by omega)
  rw [hi]
  exact Nat.pow_le_pow_right (by omega) (by omega)

/-! Leaves, nodes, roots. -/
def leafF (s : ByteArray) : ByteArray := sumF (⟨#[0]⟩ ++ s)
def nodeF (a b : ByteArray) : ByteArray := sumF (⟨#[1]⟩ ++ a ++ b)
theorem sum32 (b : ByteArray) : (sumF b).size = 32 := endF_size _
theorem leaf32 (s : ByteArray) : (leafF s).size = 32 := sum32 _
theorem node32 (a b : ByteArray) : (nodeF a b).size = 32 := sum32 _
def rootF (l : List ByteArray) : ByteArray :=
  if h : 2 ≤ l.length then nodeF (rootF (l.take (halfF l.length))) (rootF (l.drop (halfF l.length)))
  else match l with
    | [] => sumF ⟨#[]⟩
    | s :: _ => leafF s
termination_by l.length
decreasing_by
  · obtain ⟨a, b, c, _⟩ := halfF_spec h; rw [List.length_take]; omega
  · obtain ⟨a, b, c, _⟩ := halfF_spec h; rw [List.length_drop]; omega
theorem rootF_nil : rootF [] = sumF ⟨#[]⟩ := by rw [rootF]; simp
theorem rootF_one (s : ByteArray) : rootF [s] = leafF s := by rw [rootF]; simp
theorem rootF_two {l : List ByteArray} (h : 2 ≤ l.length) : rootF l = nodeF (rootF (l.take (halfF l.length))) (rootF (l.drop (halfF l.length))) := by rw [rootF]; simp [h]
theorem root32 (l : List ByteArray) : (rootF l).size = 32 := by
  rw [rootF]; split
  · exact node32 _ _
  · cases l with
    | nil => exact sum32 _
    | cons s r => exact leaf32 _

/-! Paths. -/
def pathF (l : List ByteArray) (i : Nat) : List ByteArray :=
  if h : 2 ≤ l.length ∧ i < l.length then
    if i < halfF l.length then pathF (l.take (halfF l.length)) i ++ [rootF (l.drop (halfF l.length))]
    else pathF (l.drop (halfF l.length)) (i - halfF l.length) ++ [rootF (l.take (halfF l.length))]
  else []
termination_by l.length
decreasing_by
  · obtain ⟨a, b, c, _⟩ := halfF_spec h.1; rw [List.length_take]; omega
  · obtain ⟨a, b, c, _⟩ := halfF_spec h.1; rw [List.length_drop]; omega
theorem pathF_none {l : List ByteArray} {i : Nat} (h : ¬ (2 ≤ l.length ∧ i < l.length)) : pathF l i = [] := by rw [pathF]; simp [h]
theorem pathF_left {l : List ByteArray} {i : Nat} (h : 2 ≤ l.length) (hi : i < halfF l.length) : pathF l i = pathF (l.take (halfF l.length)) i ++ [rootF (l.drop (halfF l.length))] := by
  have := halfF_spec h
  rw [pathF]; rw [dif_pos ⟨h, by omega⟩, if_pos hi]
theorem pathF_right {l : List ByteArray} {i : Nat} (h : 2 ≤ l.length) (hi : ¬ i < halfF l.length) (hl : i < l.length) : pathF l i = pathF (l.drop (halfF l.length)) (i - halfF l.length) ++ [rootF (l.take (halfF l.length))] := by
  rw [pathF]; rw [dif_pos ⟨h, hl⟩, if_neg hi]
theorem pathF_length : ∀ (d : Nat) (l : List ByteArray) (i : Nat), l.length ≤ 2 ^ d → (pathF l i).length ≤ d
  | 0, l, i, h => by rw [pathF_none (by simp at h; omega)]; simp
  | d + 1, l, i, h => by
    by_cases h2 : 2 ≤ l.length ∧ i < l.length
    · have hs := halfF_spec h2.1
      have hp := halfF_pow h2.1 h
      by_cases hi : i < halfF l.length
      · rw [pathF_left h2.1 hi, List.length_append]
        have := pathF_length d (l.take (halfF l.length)) i (by rw [List.length_take]; omega)
        simpa using this
      · rw [pathF_right h2.1 hi h2.2, List.length_append]
        have := pathF_length d (l.drop (halfF l.length)) (i - halfF l.length) (by rw [List.length_drop]; omega)
        simpa using this
    · rw [pathF_none h2]; simp

/-- What up comes to. -/
def upF (leaf : ByteArray) (n i : Nat) (path : List ByteArray) : ByteArray × Bool :=
  if h : 2 ≤ n then
    if path = [] then (⟨#[]⟩, false)
    else if i < halfF n then
      let r := upF leaf (halfF n) i path.dropLast
      (nodeF r.1 (path.getLastD ⟨#[]⟩), r.2)
    else
      let r := upF leaf (n - halfF n) (i - halfF n) path.dropLast
      (nodeF (path.getLastD ⟨#[]⟩) r.1, r.2)
  else (leaf, path.isEmpty)
termination_by n
decreasing_by
  · exact (halfF_spec h).2.1
  · have := halfF_spec h; omega
theorem upF_one (leaf : ByteArray) {n : Nat} (i : Nat) (path : List ByteArray) (h : ¬ 2 ≤ n) : upF leaf n i path = (leaf, path.isEmpty) := by rw [upF, dif_neg h]
theorem upF_nil (leaf : ByteArray) {n : Nat} (i : Nat) (h : 2 ≤ n) : upF leaf n i [] = (⟨#[]⟩, false) := by rw [upF, dif_pos h, if_pos rfl]
theorem upF_left (leaf : ByteArray) {n i : Nat} {p : List ByteArray} {x : ByteArray} (h : 2 ≤ n) (hi : i < halfF n) : upF leaf n i (p ++ [x]) = (nodeF (upF leaf (halfF n) i p).1 x, (upF leaf (halfF n) i p).2) := by
  rw [upF, dif_pos h, if_neg (by simp), if_pos hi]; simp
theorem upF_right (leaf : ByteArray) {n i : Nat} {p : List ByteArray} {x : ByteArray} (h : 2 ≤ n) (hi : ¬ i < halfF n) : upF leaf n i (p ++ [x]) = (nodeF x (upF leaf (n - halfF n) (i - halfF n) p).1, (upF leaf (n - halfF n) (i - halfF n) p).2) := by
  rw [upF, dif_pos h, if_neg (by simp), if_neg hi]; simp
theorem snoc_cases {α : Type} (p : List α) : p = [] ∨ ∃ q x, p = q ++ [x] := by
  rcases List.eq_nil_or_concat p with h | ⟨q, x, h⟩
  · exact .inl h
  · exact .inr ⟨q, x, by simpa using h⟩
theorem upF_small (leaf : ByteArray) (hl : leaf.size = 32) (n i : Nat) (path : List ByteArray) : (upF leaf n i path).1.size ≤ 32 := by
  by_cases h : 2 ≤ n
  · rcases snoc_cases path with rfl | ⟨q, x, rfl⟩
    · rw [upF_nil _ _ h]; exact Nat.zero_le _
    · by_cases hi : i < halfF n
      · rw [upF_left _ h hi]; exact Nat.le_of_eq (node32 _ _)
      · rw [upF_right _ h hi]; exact Nat.le_of_eq (node32 _ _)
  · rw [upF_one _ _ _ h]; exact Nat.le_of_eq hl
theorem upF_32 (leaf : ByteArray) (hl : leaf.size = 32) {n i : Nat} {path : List ByteArray} (ho : (upF leaf n i path).2 = true) : (upF leaf n i path).1.size = 32 := by
  by_cases h : 2 ≤ n
  · rcases snoc_cases path with rfl | ⟨q, x, rfl⟩
    · rw [upF_nil _ _ h] at ho; cases ho
    · by_cases hi : i < halfF n
      · rw [upF_left _ h hi]; exact node32 _ _
      · rw [upF_right _ h hi]; exact node32 _ _
  · rw [upF_one _ _ _ h]; exact hl
theorem getD_take {l : List ByteArray} {k i : Nat} (h : i < k) : (l.take k).getD i ⟨#[]⟩ = l.getD i ⟨#[]⟩ := by simp [List.getD, List.getElem?_take, h]
theorem getD_drop {l : List ByteArray} {k i : Nat} (h : k ≤ i) : (l.drop k).getD (i - k) ⟨#[]⟩ = l.getD i ⟨#[]⟩ := by
  simp only [List.getD, List.getElem?_drop]; rw [show k + (i - k) = i by omega]
/-- A path leads from a leaf to the root. -/
theorem up_path : ∀ (n : Nat) (l : List ByteArray) (i : Nat), l.length = n → i < n → upF (leafF (l.getD i ⟨#[]⟩)) n i (pathF l i) = (rootF l, true) := by
  intro n
  induction n using Nat.strongRecOn with
  | _ n ih =>
    intro l i hl hi
    by_cases h2 : 2 ≤ n
    · have hs := halfF_spec h2
      subst hl
      by_cases hk : i < halfF l.length
      · have h := ih (halfF l.length) hs.2.1 (l.take (halfF l.length)) i (by rw [List.length_take]; omega) hk
        rw [getD_take hk] at h
        rw [pathF_left h2 hk, upF_left _ h2 hk, h, rootF_two h2]
      · have h := ih (l.length - halfF l.length) (by omega) (l.drop (halfF l.length)) (i - halfF l.length) (by rw [List.length_drop]) (by omega)
        rw [getD_drop (by omega)] at h
        rw [pathF_right h2 hk hi, upF_right _ h2 hk, h, rootF_two h2]
    · have h1 : l.length = 1 := by omega
      obtain ⟨s, rfl⟩ := List.length_eq_one_iff.1 h1
      have h0 : i = 0 := by omega
      subst h0
      rw [upF_one _ _ _ h2, pathF_none (by simp), rootF_one]; rfl
/-- How many sums a path has. -/
def deepF (n i : Nat) : Nat :=
  if h : 2 ≤ n then (if i < halfF n then deepF (halfF n) i else deepF (n - halfF n) (i - halfF n)) + 1 else 0
termination_by n
decreasing_by
  · exact (halfF_spec h).2.1
  · have := halfF_spec h; omega
theorem up_deep (leaf : ByteArray) : ∀ (n i : Nat) (p : List ByteArray), (upF leaf n i p).2 = true → p.length = deepF n i := by
  intro n
  induction n using Nat.strongRecOn with
  | _ n ih =>
    intro i p ho
    by_cases h : 2 ≤ n
    · have hs := halfF_spec h
      rcases snoc_cases p with rfl | ⟨q, x, rfl⟩
      · rw [upF_nil _ _ h] at ho; cases ho
      · rw [deepF, dif_pos h, List.length_append]
        by_cases hi : i < halfF n
        · rw [upF_left _ h hi] at ho
          rw [if_pos hi, ih _ hs.2.1 i q ho]; rfl
        · rw [upF_right _ h hi] at ho
          rw [if_neg hi, ih _ (by omega) (i - halfF n) q ho]; rfl
    · rw [upF_one _ _ _ h] at ho
      rw [deepF, dif_neg h]
      have : p = [] := by simpa using ho
      rw [this]; rfl
def mcheckF (root : ByteArray) (n i : Int) (s : ByteArray) (path : List ByteArray) : Bool :=
  decide (1 ≤ n) && (decide (n ≤ 1099511627776) && (decide (0 ≤ i) && (decide (i < n) && ((upF (leafF s) n.toNat i.toNat path).2 && decide ((upF (leafF s) n.toNat i.toNat path).1 = root)))))
theorem check_path {l : List ByteArray} {i : Nat} (hi : i < l.length) (hl : l.length ≤ 130) : mcheckF (rootF l) l.length i (l.getD i ⟨#[]⟩) (pathF l i) = true := by
  have h := up_path l.length l i rfl hi
  unfold mcheckF
  simp only [Int.toNat_natCast, h]
  have h1 : (1 : Int) ≤ (l.length : Int) := by omega
  have h2 : (l.length : Int) ≤ 1099511627776 := by omega
  have h3 : (i : Int) < (l.length : Int) := by omega
  simp [h1, h2, h3]
theorem check_more {l : List ByteArray} {i : Nat} (x : ByteArray) (hi : i < l.length) : mcheckF (rootF l) l.length i (l.getD i ⟨#[]⟩) (pathF l i ++ [x]) = false := by
  have h := up_path l.length l i rfl hi
  have hd := up_deep (leafF (l.getD i ⟨#[]⟩)) l.length i (pathF l i) (by rw [h])
  have hn : (upF (leafF (l.getD i ⟨#[]⟩)) l.length i (pathF l i ++ [x])).2 = false := by
    cases ho : (upF (leafF (l.getD i ⟨#[]⟩)) l.length i (pathF l i ++ [x])).2 with
    | false => rfl
    | true =>
      have := up_deep _ _ _ _ ho
      rw [List.length_append, hd] at this
      simp at this
  unfold mcheckF
  simp only [Int.toNat_natCast, hn]
  simp

/-! Clashes. -/
theorem app_inj {a b c d : ByteArray} (h : a ++ b = c ++ d) (hs : a.size = c.size) : a = c ∧ b = d := by
  have h' : a.data.toList ++ b.data.toList = c.data.toList ++ d.data.toList := by rw [← toList_append, ← toList_append, h]
  have := List.append_inj h' (by rw [toList_length, toList_length]; exact hs)
  exact ⟨bs_ext this.1, bs_ext this.2⟩
theorem app_assoc (a b c : ByteArray) : a ++ b ++ c = a ++ (b ++ c) := bs_ext (by simp [toList_append])
theorem pre_inj {p a b : ByteArray} (h : p ++ a = p ++ b) : a = b := (app_inj h rfl).2
theorem pre_inj2 {p a b c d : ByteArray} (h : p ++ a ++ b = p ++ c ++ d) (hs : a.size = c.size) : a = c ∧ b = d := by
  rw [app_assoc, app_assoc] at h
  exact app_inj (pre_inj h) hs
def clashB (a b : ByteArray) : Bool := decide (a ≠ b) && decide (sumF a = sumF b)
theorem clashB_iff {a b : ByteArray} : clashB a b = true ↔ a ≠ b ∧ sumF a = sumF b := by simp [clashB]
def clashF (a b : List ByteArray) : ByteArray × ByteArray :=
  if h : a.length = b.length ∧ a ≠ [] ∧ rootF a = rootF b then
    if h2 : 2 ≤ a.length then
      if rootF (a.take (halfF a.length)) = rootF (b.take (halfF a.length)) ∧ rootF (a.drop (halfF a.length)) = rootF (b.drop (halfF a.length)) then
        let r := clashF (a.take (halfF a.length)) (b.take (halfF a.length))
        if r.1 ≠ r.2 then r else clashF (a.drop (halfF a.length)) (b.drop (halfF a.length))
      else (⟨#[1]⟩ ++ rootF (a.take (halfF a.length)) ++ rootF (a.drop (halfF a.length)), ⟨#[1]⟩ ++ rootF (b.take (halfF a.length)) ++ rootF (b.drop (halfF a.length)))
    else if a.getD 0 ⟨#[]⟩ = b.getD 0 ⟨#[]⟩ then (⟨#[]⟩, ⟨#[]⟩) else (⟨#[0]⟩ ++ a.getD 0 ⟨#[]⟩, ⟨#[0]⟩ ++ b.getD 0 ⟨#[]⟩)
  else (⟨#[]⟩, ⟨#[]⟩)
termination_by a.length
decreasing_by
  · obtain ⟨a, b, c, _⟩ := halfF_spec h2; rw [List.length_take]; omega
  · obtain ⟨a, b, c, _⟩ := halfF_spec h2; rw [List.length_drop]; omega
theorem clashF_bad {a b : List ByteArray} (h : ¬ (a.length = b.length ∧ a ≠ [] ∧ rootF a = rootF b)) : clashF a b = (⟨#[]⟩, ⟨#[]⟩) := by rw [clashF, dif_neg h]
theorem clashF_one {a b : List ByteArray} (h : a.length = b.length ∧ a ≠ [] ∧ rootF a = rootF b) (h2 : ¬ 2 ≤ a.length) :
    clashF a b = if a.getD 0 ⟨#[]⟩ = b.getD 0 ⟨#[]⟩ then (⟨#[]⟩, ⟨#[]⟩) else (⟨#[0]⟩ ++ a.getD 0 ⟨#[]⟩, ⟨#[0]⟩ ++ b.getD 0 ⟨#[]⟩) := by rw [clashF, dif_pos h, dif_neg h2]
theorem clashF_two {a b : List ByteArray} (h : a.length = b.length ∧ a ≠ [] ∧ rootF a = rootF b) (h2 : 2 ≤ a.length) : clashF a b =
    if rootF (a.take (halfF a.length)) = rootF (b.take (halfF a.length)) ∧ rootF (a.drop (halfF a.length)) = rootF (b.drop (halfF a.length)) then
        if (clashF (a.take (halfF a.length)) (b.take (halfF a.length))).1 ≠ (clashF (a.take (halfF a.length)) (b.take (halfF a.length))).2 then clashF (a.take (halfF a.length)) (b.take (halfF a.length)) else clashF (a.drop (halfF a.length)) (b.drop (halfF a.length))
      else (⟨#[1]⟩ ++ rootF (a.take (halfF a.length)) ++ rootF (a.drop (halfF a.length)), ⟨#[1]⟩ ++ rootF (b.take (halfF a.length)) ++ rootF (b.drop (halfF a.length))) := by rw [clashF, dif_pos h, dif_pos h2]
theorem clash_law : ∀ (n : Nat) (a b : List ByteArray), a.length = n → a.length = b.length → rootF a = rootF b →
    (a = b → clashF a b = (⟨#[]⟩, ⟨#[]⟩)) ∧ (a ≠ b → (clashF a b).1 ≠ (clashF a b).2 ∧ sumF (clashF a b).1 = sumF (clashF a b).2) := by
  intro n
  induction n using Nat.strongRecOn with
  | _ n ih =>
    intro a b hn hl hr
    by_cases h0 : a = []
    · subst h0
      have hb : b = [] := List.eq_nil_of_length_eq_zero (by rw [← hl]; rfl)
      subst hb
      exact ⟨fun _ => clashF_bad (by simp), fun h => absurd rfl h⟩
    · have hc : a.length = b.length ∧ a ≠ [] ∧ rootF a = rootF b := ⟨hl, h0, hr⟩
      by_cases h2 : 2 ≤ a.length
      · have hs := halfF_spec h2
        have hra := rootF_two h2
        have hrb := rootF_two (l := b) (by omega)
        rw [← hl] at hrb
        rw [clashF_two hc h2]
        by_cases hp : rootF (a.take (halfF a.length)) = rootF (b.take (halfF a.length)) ∧ rootF (a.drop (halfF a.length)) = rootF (b.drop (halfF a.length))
        · rw [if_pos hp]
          have i1 := ih (halfF a.length) (by omega) (a.take (halfF a.length)) (b.take (halfF a.length)) (by rw [List.length_take]; omega) (by rw [List.length_take, List.length_take]; omega) hp.1
          have i2 := ih (a.length - halfF a.length) (by omega) (a.drop (halfF a.length)) (b.drop (halfF a.length)) (by rw [List.length_drop]) (by rw [List.length_drop, List.length_drop]; omega) hp.2
          constructor
          · rintro rfl
            rw [i1.1 rfl, i2.1 rfl]
            simp
          · intro hne
            by_cases ht : a.take (halfF a.length) = b.take (halfF a.length)
            · rw [i1.1 ht]
              simp only [ne_eq, not_true_eq_false, if_false]
              refine i2.2 fun hd => hne ?_
              rw [← List.take_append_drop (halfF a.length) a, ← List.take_append_drop (halfF a.length) b, ht, hd]
            · rw [if_pos (i1.2 ht).1]
              exact i1.2 ht
        · rw [if_neg hp]
          constructor
          · rintro rfl; exact absurd ⟨rfl, rfl⟩ hp
          · intro _
            refine ⟨fun e => hp (pre_inj2 e (by rw [root32, root32])), ?_⟩
            show nodeF _ _ = nodeF _ _
            rw [← hra, ← hrb, hr]
      · have ha1 : a.length = 1 := by
          have : a.length ≠ 0 := fun e => h0 (List.eq_nil_of_length_eq_zero e)
          omega
        obtain ⟨x, rfl⟩ := List.length_eq_one_iff.1 ha1
        obtain ⟨y, rfl⟩ := List.length_eq_one_iff.1 (by rw [← hl]; exact ha1 : b.length = 1)
        rw [clashF_one hc h2]
        rw [rootF_one, rootF_one] at hr
        simp only [List.getD_cons_zero]
        constructor
        · intro e
          rw [if_pos (by simpa using e)]
        · intro e
          have e' : x ≠ y := by simpa using e
          rw [if_neg e']
          exact ⟨fun h => e' (pre_inj h), hr⟩

/-! Told. -/
def toldF (l : List ByteArray) (i : Nat) (s : ByteArray) (path : List ByteArray) : ByteArray × Bool :=
  if h : 2 ≤ l.length then
    if path = [] then (⟨#[]⟩, false)
    else if i < halfF l.length then
      let r := toldF (l.take (halfF l.length)) i s path.dropLast
      (nodeF r.1 (path.getLastD ⟨#[]⟩), r.2 || clashB (⟨#[1]⟩ ++ r.1 ++ path.getLastD ⟨#[]⟩) (⟨#[1]⟩ ++ rootF (l.take (halfF l.length)) ++ rootF (l.drop (halfF l.length))))
    else
      let r := toldF (l.drop (halfF l.length)) (i - halfF l.length) s path.dropLast
      (nodeF (path.getLastD ⟨#[]⟩) r.1, r.2 || clashB (⟨#[1]⟩ ++ path.getLastD ⟨#[]⟩ ++ r.1) (⟨#[1]⟩ ++ rootF (l.take (halfF l.length)) ++ rootF (l.drop (halfF l.length))))
  else (leafF s, clashB (⟨#[0]⟩ ++ s) (⟨#[0]⟩ ++ l.getD 0 ⟨#[]⟩))
termination_by l.length
decreasing_by
  · obtain ⟨a, b, c, _⟩ := halfF_spec h; rw [List.length_take]; omega
  · obtain ⟨a, b, c, _⟩ := halfF_spec h; rw [List.length_drop]; omega
theorem toldF_one {l : List ByteArray} (i : Nat) (s : ByteArray) (path : List ByteArray) (h : ¬ 2 ≤ l.length) : toldF l i s path = (leafF s, clashB (⟨#[0]⟩ ++ s) (⟨#[0]⟩ ++ l.getD 0 ⟨#[]⟩)) := by rw [toldF, dif_neg h]
theorem toldF_nil {l : List ByteArray} (i : Nat) (s : ByteArray) (h : 2 ≤ l.length) : toldF l i s [] = (⟨#[]⟩, false) := by rw [toldF, dif_pos h, if_pos rfl]
theorem toldF_left {l : List ByteArray} {i : Nat} (s : ByteArray) {p : List ByteArray} {x : ByteArray} (h : 2 ≤ l.length) (hi : i < halfF l.length) :
    toldF l i s (p ++ [x]) = (nodeF (toldF (l.take (halfF l.length)) i s p).1 x, (toldF (l.take (halfF l.length)) i s p).2 || clashB (⟨#[1]⟩ ++ (toldF (l.take (halfF l.length)) i s p).1 ++ x) (⟨#[1]⟩ ++ rootF (l.take (halfF l.length)) ++ rootF (l.drop (halfF l.length)))) := by
  rw [toldF, dif_pos h, if_neg (by simp), if_pos hi]; simp
theorem toldF_right {l : List ByteArray} {i : Nat} (s : ByteArray) {p : List ByteArray} {x : ByteArray} (h : 2 ≤ l.length) (hi : ¬ i < halfF l.length) :
    toldF l i s (p ++ [x]) = (nodeF x (toldF (l.drop (halfF l.length)) (i - halfF l.length) s p).1, (toldF (l.drop (halfF l.length)) (i - halfF l.length) s p).2 || clashB (⟨#[1]⟩ ++ x ++ (toldF (l.drop (halfF l.length)) (i - halfF l.length) s p).1) (⟨#[1]⟩ ++ rootF (l.take (halfF l.length)) ++ rootF (l.drop (halfF l.length)))) := by
  rw [toldF, dif_pos h, if_neg (by simp), if_neg hi]; simp
theorem told_up (s : ByteArray) : ∀ (n : Nat) (l : List ByteArray) (i : Nat) (p : List ByteArray), l.length = n → (toldF l i s p).1 = (upF (leafF s) n i p).1 := by
  intro n
  induction n using Nat.strongRecOn with
  | _ n ih =>
    intro l i p hl
    subst hl
    by_cases h : 2 ≤ l.length
    · have hs := halfF_spec h
      rcases snoc_cases p with rfl | ⟨q, x, rfl⟩
      · rw [toldF_nil _ _ h, upF_nil _ _ h]
      · by_cases hi : i < halfF l.length
        · rw [toldF_left _ h hi, upF_left _ h hi]
          simp only [ih _ hs.2.1 (l.take (halfF l.length)) i q (by rw [List.length_take]; omega)]
        · rw [toldF_right _ h hi, upF_right _ h hi]
          simp only [ih (l.length - halfF l.length) (by omega) (l.drop (halfF l.length)) (i - halfF l.length) q (by rw [List.length_drop])]
    · rw [toldF_one _ _ _ h, upF_one _ _ _ h]
/-- A path that shows another thing leads to a clash. -/
theorem told_law (s : ByteArray) : ∀ (n : Nat) (l : List ByteArray) (i : Nat) (p : List ByteArray), l.length = n → i < n → s ≠ l.getD i ⟨#[]⟩ → (upF (leafF s) n i p).2 = true → (upF (leafF s) n i p).1 = rootF l → (toldF l i s p).2 = true := by
  intro n
  induction n using Nat.strongRecOn with
  | _ n ih =>
    intro l i p hl hi hne ho hr
    subst hl
    by_cases h : 2 ≤ l.length
    · have hs := halfF_spec h
      rcases snoc_cases p with rfl | ⟨q, x, rfl⟩
      · rw [upF_nil _ _ h] at ho; cases ho
      · by_cases hk : i < halfF l.length
        · have hu := told_up s (halfF l.length) (l.take (halfF l.length)) i q (by rw [List.length_take]; omega)
          rw [upF_left _ h hk] at ho hr
          rw [toldF_left _ h hk]
          simp only [hu, Bool.or_eq_true]
          by_cases he : (⟨#[1]⟩ ++ (upF (leafF s) (halfF l.length) i q).1 ++ x : ByteArray) = ⟨#[1]⟩ ++ rootF (l.take (halfF l.length)) ++ rootF (l.drop (halfF l.length))
          · left
            have h1 := (pre_inj2 he (by rw [upF_32 _ (leaf32 s) ho, root32])).1
            exact ih _ hs.2.1 (l.take (halfF l.length)) i q (by rw [List.length_take]; omega) hk (by rw [getD_take hk]; exact hne) ho h1
          · right
            rw [clashB_iff]
            refine ⟨he, ?_⟩
            rw [rootF_two h] at hr
            exact hr
        · have hu := told_up s (l.length - halfF l.length) (l.drop (halfF l.length)) (i - halfF l.length) q (by rw [List.length_drop])
          rw [upF_right _ h hk] at ho hr
          rw [toldF_right _ h hk]
          simp only [hu, Bool.or_eq_true]
          by_cases he : (⟨#[1]⟩ ++ x ++ (upF (leafF s) (l.length - halfF l.length) (i - halfF l.length) q).1 : ByteArray) = ⟨#[1]⟩ ++ rootF (l.take (halfF l.length)) ++ rootF (l.drop (halfF l.length))
          · left
            have hsz : x.size = (rootF (l.take (halfF l.length))).size := by
              have e1 := congrArg ByteArray.size he
              simp only [ByteArray.size_append] at e1
              rw [upF_32 _ (leaf32 s) ho, root32 (l.drop _)] at e1
              omega
            have h1 := (pre_inj2 he hsz).2
            exact ih (l.length - halfF l.length) (by omega) (l.drop (halfF l.length)) (i - halfF l.length) q (by rw [List.length_drop]) (by omega) (by rw [getD_drop (by omega)]; exact hne) ho h1
          · right
            rw [clashB_iff]
            refine ⟨he, ?_⟩
            rw [rootF_two h] at hr
            exact hr
    · have h1 : l.length = 1 := by omega
      obtain ⟨y, rfl⟩ := List.length_eq_one_iff.1 h1
      have h0 : i = 0 := by simp at hi; omega
      subst h0
      rw [upF_one _ _ _ h] at ho hr
      rw [toldF_one _ _ _ h]
      rw [rootF_one] at hr
      simp only [List.getD_cons_zero] at hne ⊢
      rw [clashB_iff]
      exact ⟨fun e => hne (pre_inj e), hr⟩

/-! Consistency. -/
def proofG (l : List ByteArray) (m : Nat) (whole : Bool) : List ByteArray :=
  if m = l.length then (if whole then [] else [rootF l])
  else if h : 2 ≤ l.length then
    if m ≤ halfF l.length then proofG (l.take (halfF l.length)) m whole ++ [rootF (l.drop (halfF l.length))]
    else proofG (l.drop (halfF l.length)) (m - halfF l.length) false ++ [rootF (l.take (halfF l.length))]
  else []
termination_by l.length
decreasing_by
  · obtain ⟨a, b, c, _⟩ := halfF_spec h; rw [List.length_take]; omega
  · obtain ⟨a, b, c, _⟩ := halfF_spec h; rw [List.length_drop]; omega
def proofF (l : List ByteArray) (m : Nat) : List ByteArray := if 1 ≤ m ∧ m ≤ l.length then proofG l m true else []
theorem proofG_all {l : List ByteArray} {m : Nat} (w : Bool) (h : m = l.length) : proofG l m w = if w then [] else [rootF l] := by rw [proofG, if_pos h]
theorem proofG_left {l : List ByteArray} {m : Nat} (w : Bool) (h : m ≠ l.length) (h2 : 2 ≤ l.length) (hk : m ≤ halfF l.length) : proofG l m w = proofG (l.take (halfF l.length)) m w ++ [rootF (l.drop (halfF l.length))] := by
  rw [proofG, if_neg h, dif_pos h2, if_pos hk]
theorem proofG_right {l : List ByteArray} {m : Nat} (w : Bool) (h : m ≠ l.length) (h2 : 2 ≤ l.length) (hk : ¬ m ≤ halfF l.length) : proofG l m w = proofG (l.drop (halfF l.length)) (m - halfF l.length) false ++ [rootF (l.take (halfF l.length))] := by
  rw [proofG, if_neg h, dif_pos h2, if_neg hk]
theorem proofG_length : ∀ (d : Nat) (l : List ByteArray) (m : Nat) (w : Bool), l.length ≤ 2 ^ d → (proofG l m w).length ≤ d + 1
  | 0, l, m, w, h => by
    by_cases hm : m = l.length
    · rw [proofG_all w hm]; split <;> simp
    · rw [proofG, if_neg hm, dif_neg (by simp at h; omega)]; simp
  | d + 1, l, m, w, h => by
    by_cases hm : m = l.length
    · rw [proofG_all w hm]; split <;> simp
    · by_cases h2 : 2 ≤ l.length
      · have hs := halfF_spec h2
        have hp := halfF_pow h2 h
        by_cases hk : m ≤ halfF l.length
        · rw [proofG_left w hm h2 hk, List.length_append]
          have := proofG_length d (l.take (halfF l.length)) m w (by rw [List.length_take]; omega)
          simpa using this
        · rw [proofG_right w hm h2 hk, List.length_append]
          have := proofG_length d (l.drop (halfF l.length)) (m - halfF l.length) false (by rw [List.length_drop]; omega)
          simpa using this
      · rw [proofG, if_neg hm, dif_neg h2]; simp
/-- What both comes to. -/
def bothF (old : ByteArray) (m n : Nat) (whole : Bool) (p : List ByteArray) : ByteArray × ByteArray × Bool :=
  if m = n then
    if whole then (old, old, p.isEmpty)
    else if p.length ≠ 1 then (⟨#[]⟩, ⟨#[]⟩, false) else (p.getD 0 ⟨#[]⟩, p.getD 0 ⟨#[]⟩, true)
  else if p = [] then (⟨#[]⟩, ⟨#[]⟩, false)
  else if h : 2 ≤ n then
    if m ≤ halfF n then
      let r := bothF old m (halfF n) whole p.dropLast
      (r.1, nodeF r.2.1 (p.getLastD ⟨#[]⟩), r.2.2)
    else
      let r := bothF old (m - halfF n) (n - halfF n) false p.dropLast
      (nodeF (p.getLastD ⟨#[]⟩) r.1, nodeF (p.getLastD ⟨#[]⟩) r.2.1, r.2.2)
  else (⟨#[]⟩, ⟨#[]⟩, false)
termination_by n
decreasing_by
  · exact (halfF_spec h).2.1
  · have := halfF_spec h; omega
theorem bothF_whole (old : ByteArray) (n : Nat) (p : List ByteArray) : bothF old n n true p = (old, old, p.isEmpty) := by rw [bothF, if_pos rfl]; rfl
theorem bothF_part (old : ByteArray) (n : Nat) (p : List ByteArray) : bothF old n n false p = if p.length ≠ 1 then (⟨#[]⟩, ⟨#[]⟩, false) else (p.getD 0 ⟨#[]⟩, p.getD 0 ⟨#[]⟩, true) := by rw [bothF, if_pos rfl]; rfl
theorem bothF_nil (old : ByteArray) {m n : Nat} (w : Bool) (h : m ≠ n) : bothF old m n w [] = (⟨#[]⟩, ⟨#[]⟩, false) := by rw [bothF, if_neg h, if_pos rfl]
theorem bothF_left (old : ByteArray) {m n : Nat} (w : Bool) {p : List ByteArray} {x : ByteArray} (h : m ≠ n) (h2 : 2 ≤ n) (hk : m ≤ halfF n) :
    bothF old m n w (p ++ [x]) = ((bothF old m (halfF n) w p).1, nodeF (bothF old m (halfF n) w p).2.1 x, (bothF old m (halfF n) w p).2.2) := by
  rw [bothF, if_neg h, if_neg (by simp), dif_pos h2, if_pos hk]; simp
theorem bothF_right (old : ByteArray) {m n : Nat} (w : Bool) {p : List ByteArray} {x : ByteArray} (h : m ≠ n) (h2 : 2 ≤ n) (hk : ¬ m ≤ halfF n) :
    bothF old m n w (p ++ [x]) = (nodeF x (bothF old (m - halfF n) (n - halfF n) false p).1, nodeF x (bothF old (m - halfF n) (n - halfF n) false p).2.1, (bothF old (m - halfF n) (n - halfF n) false p).2.2) := by
  rw [bothF, if_neg h, if_neg (by simp), dif_pos h2, if_neg hk]; simp
theorem both_proof : ∀ (n : Nat) (l : List ByteArray) (m : Nat) (w : Bool) (old : ByteArray), l.length = n → 1 ≤ m → m ≤ n → (w = true → old = rootF (l.take m)) → bothF old m n w (proofG l m w) = (rootF (l.take m), rootF l, true) := by
  intro n
  induction n using Nat.strongRecOn with
  | _ n ih =>
    intro l m w old hl h1 hm hold
    subst hl
    by_cases he : m = l.length
    · subst he
      rw [proofG_all w rfl, List.take_length]
      cases w with
      | true =>
        have := hold rfl
        rw [List.take_length] at this
        simp [bothF_whole, this]
      | false => simp [bothF_part]
    · have h2 : 2 ≤ l.length := by omega
      have hs := halfF_spec h2
      by_cases hk : m ≤ halfF l.length
      · have ht : (l.take (halfF l.length)).take m = l.take m := by rw [List.take_take, Nat.min_eq_left hk]
        have h := ih (halfF l.length) hs.2.1 (l.take (halfF l.length)) m w old (by rw [List.length_take]; omega) h1 hk (by rw [ht]; exact hold)
        rw [ht] at h
        rw [proofG_left w he h2 hk, bothF_left old w he h2 hk, h, rootF_two h2]
      · have h := ih (l.length - halfF l.length) (by omega) (l.drop (halfF l.length)) (m - halfF l.length) false old (by rw [List.length_drop]) (by omega) (by omega) (by simp)
        rw [proofG_right w he h2 hk, bothF_right old w he h2 hk, h]
        have hlt : (l.take m).length = m := by rw [List.length_take]; omega
        have hsame := halfF_same h2 (m := m) (by omega) hm
        have hm2 : 2 ≤ (l.take m).length := by omega
        rw [rootF_two h2, rootF_two hm2, hlt, hsame, List.take_take, Nat.min_eq_left (by omega), List.drop_take]
def deepG (m n : Nat) (w : Bool) : Nat :=
  if m = n then (if w then 0 else 1)
  else if h : 2 ≤ n then (if m ≤ halfF n then deepG m (halfF n) w else deepG (m - halfF n) (n - halfF n) false) + 1
  else 0
termination_by n
decreasing_by
  · exact (halfF_spec h).2.1
  · have := halfF_spec h; omega
theorem both_deep (old : ByteArray) : ∀ (n m : Nat) (w : Bool) (p : List ByteArray), (bothF old m n w p).2.2 = true → p.length = deepG m n w := by
  intro n
  induction n using Nat.strongRecOn with
  | _ n ih =>
    intro m w p ho
    by_cases he : m = n
    · subst he
      rw [deepG, if_pos rfl]
      cases w with
      | true =>
        rw [bothF_whole] at ho
        have : p = [] := by simpa using ho
        rw [this]; rfl
      | false =>
        rw [bothF_part] at ho
        by_cases h1 : p.length ≠ 1
        · rw [if_pos h1] at ho; cases ho
        · simp at h1; simp [h1]
    · rcases snoc_cases p with rfl | ⟨q, x, rfl⟩
      · rw [bothF_nil _ _ he] at ho; cases ho
      · by_cases h2 : 2 ≤ n
        · have hs := halfF_spec h2
          rw [deepG, if_neg he, dif_pos h2, List.length_append]
          by_cases hk : m ≤ halfF n
          · rw [bothF_left _ _ he h2 hk] at ho
            rw [if_pos hk, ih _ hs.2.1 m w q ho]; rfl
          · rw [bothF_right _ _ he h2 hk] at ho
            rw [if_neg hk, ih (n - halfF n) (by omega) (m - halfF n) false q ho]; rfl
        · rw [bothF, if_neg he, if_neg (by simp), dif_neg h2] at ho; cases ho
def extF (old : ByteArray) (m : Int) (root : ByteArray) (n : Int) (p : List ByteArray) : Bool :=
  if m < 0 ∨ n < m ∨ 1099511627776 < n then false
  else if m = 0 then p.isEmpty && (decide (old = sumF ⟨#[]⟩) && (decide (0 < n) || decide (root = old)))
  else (bothF old m.toNat n.toNat true p).2.2 && (decide ((bothF old m.toNat n.toNat true p).1 = old) && decide ((bothF old m.toNat n.toNat true p).2.1 = root))
theorem ext_proof {l : List ByteArray} {m : Nat} (hm : m ≤ l.length) (hl : l.length ≤ 1099511627776) : extF (rootF (l.take m)) m (rootF l) l.length (proofF l m) = true := by
  unfold extF
  rw [if_neg (by omega)]
  by_cases h0 : m = 0
  · subst h0
    rw [if_pos (show ((0 : Nat) : Int) = 0 from rfl)]
    have hp : proofF l 0 = [] := by simp [proofF]
    rw [hp]
    simp only [List.take_zero, rootF_nil]
    by_cases hz : l.length = 0
    · have : l = [] := List.eq_nil_of_length_eq_zero hz
      subst this
      simp [rootF_nil]
    · have hpos : (0 : Int) < (l.length : Int) := by omega
      have hd : decide ((0 : Int) < (l.length : Int)) = true := by simpa using hpos
      rw [hd]
      simp
  · rw [if_neg (by omega)]
    have h := both_proof l.length l m true (rootF (l.take m)) rfl (by omega) hm (fun _ => rfl)
    have hp : proofF l m = proofG l m true := by unfold proofF; rw [if_pos ⟨by omega, hm⟩]
    simp only [Int.toNat_natCast, hp, h]
    simp
theorem ext_more {l : List ByteArray} {m : Nat} (x : ByteArray) (h0 : m ≠ 0) (hm : m ≤ l.length) : extF (rootF (l.take m)) m (rootF l) l.length (proofF l m ++ [x]) = false := by
  have h := both_proof l.length l m true (rootF (l.take m)) rfl (by omega) hm (fun _ => rfl)
  have hp : proofF l m = proofG l m true := by unfold proofF; rw [if_pos ⟨by omega, hm⟩]
  have hd := both_deep (rootF (l.take m)) l.length m true (proofG l m true) (by rw [h])
  have hn : (bothF (rootF (l.take m)) m l.length true (proofG l m true ++ [x])).2.2 = false := by
    cases ho : (bothF (rootF (l.take m)) m l.length true (proofG l m true ++ [x])).2.2 with
    | false => rfl
    | true =>
      have := both_deep _ _ _ _ _ ho
      rw [List.length_append, hd] at this
      simp at this
  unfold extF
  split
  · rfl
  · rw [if_neg (by omega)]
    simp only [Int.toNat_natCast, hp, hn]
    simp
theorem ext_back {old root : ByteArray} {m n : Int} {p : List ByteArray} (h : n < m) : extF old m root n p = false := by
  unfold extF
  rw [if_pos (by omega)]
theorem proofF_length {l : List ByteArray} {m : Nat} (h : l.length ≤ 130) : (proofF l m).length ≤ 9 := by
  unfold proofF
  split
  · exact proofG_length 8 l m true (by omega)
  · simp
end Go.Proofs.YtmacceamebdelaaDoor
/-! Merkle -/
namespace Go.Proofs.YtmacceamebdelaaDoor
open Go.RowKit
set_option linter.unusedVariables false
set_option linter.unusedSimpArgs false

set_option maxRecDepth 100000 in
set_option maxHeartbeats 1600000 in
theorem leaf_any (s : ByteArray) (w : World) (hs : s.size ≤ 140737488355328) (ht : Tab w) :
    Calls Tryd.prog 46 #[.string s] w fun e w' => e = .returned (.string (leafF s)) ∧ Below w.heap.size w w' := by
  have HT := Lib.hid ht
  clear ht
  go_enter Tryd.func46, Tryd.ntmps46
  go_wp2_with fail
  (with_reducible refine (sum_any _ _ HT.out).mono ?_)
  rintro e w1 ⟨rfl, hb1⟩
  have HB1 := Lib.hid hb1
  clear hb1
  go_wp2_with fail
  go_ret
  exact ⟨rfl, HB1.out⟩
set_option maxRecDepth 100000 in
set_option maxHeartbeats 1600000 in
theorem node_any (a b : ByteArray) (w : World) (ha : a.size ≤ 140737488355328) (hb : b.size ≤ 140737488355328) (ht : Tab w) :
    Calls Tryd.prog 38 #[.string a, .string b] w fun e w' => e = .returned (.string (nodeF a b)) ∧ Below w.heap.size w w' := by
  have HT := Lib.hid ht
  clear ht
  go_enter Tryd.func38, Tryd.ntmps38
  go_wp2_with fail
  (with_reducible refine (sum_any _ _ HT.out).mono ?_)
  rintro e w1 ⟨rfl, hb1⟩
  have HB1 := Lib.hid hb1
  clear hb1
  go_wp2_with fail
  go_ret
  exact ⟨rfl, HB1.out⟩
set_option maxRecDepth 100000 in
set_option maxHeartbeats 1600000 in
theorem half_any (n : Nat) (w : World) (hn : n ≤ 2305843009213693951) :
    Calls Tryd.prog 37 #[.int .i64 (n : Int)] w fun e w' => e = .returned (.int .i64 ((halfF n : Nat) : Int)) ∧ w = w' := by
  obtain ⟨r, hr⟩ : ∃ r, r = halfF n := ⟨_, rfl⟩
  rw [← hr]
  have HR := Lib.hid (show halfG n 1 n = r from hr.symm)
  clear hr
  go_enter Tryd.func37, Tryd.ntmps37
  go_wp2_with fail
  go_loop [3] (fun i => ∃ (f k : Nat), i = .int .i64 (k : Int) ∧ 1 ≤ k ∧ k ≤ max 1 n ∧ n ≤ k * 2 ^ (f + 1) ∧ halfG f k n = r) (fun i => n - (intOf i).toNat)
  case atStart => exact ⟨n, 1, rfl, Nat.le_refl _, by omega, by have := Nat.lt_two_pow_self (n := n); rw [Nat.one_mul, Nat.pow_succ]; omega, HR.out⟩
  case round =>
    obtain ⟨f, k, rfl, hk1, hkn, hp, hg⟩ := hrel
    have HP := Lib.hid hp
    have HG := Lib.hid hg
    clear hp hg
    have hw1 : IntKind.i64.wrap (2 * (k : Int)) = 2 * (k : Int) := IntWalk.i64_in _ (by omega)
    have hw2 : IntKind.i64.wrap ((k : Int) * 2) = (k : Int) * 2 := IntWalk.i64_in _ (by omega)
    by_cases hlt : 2 * k < n
    · have hkb : decide (2 * (k : Int) < (n : Int)) = true := by simp; omega
      have hki : 2 * (k : Int) < (n : Int) := by omega
      go_wp2_with fail
      go_round
      case rel =>
        have hg := HG.out
        have hp := HP.out
        cases f with
        | zero => simp at hp; omega
        | succ f =>
          refine ⟨f, 2 * k, by congr 1; omega, by omega, by omega, ?_, ?_⟩
          · rw [Nat.pow_succ] at hp; rw [Nat.mul_comm 2 k, Nat.mul_assoc, Nat.mul_comm 2]; exact hp
          · rw [halfG, if_pos hlt] at hg; exact hg
      case measure => simp [intOf]; omega
    · have hkb : decide (2 * (k : Int) < (n : Int)) = false := by simp; omega
      have hki : (n : Int) ≤ 2 * (k : Int) := by omega
      have hx : k = r := by
        have hg := HG.out
        cases f with
        | zero => exact hg
        | succ f => rw [halfG, if_neg hlt] at hg; exact hg
      have HX := Lib.hid hx
      clear hx
      go_wp2_with fail
      go_ret
      exact ⟨(by rw [HX.out]; rfl), rfl⟩
set_option maxRecDepth 100000 in
set_option maxHeartbeats 1600000 in
theorem root_any : ∀ (N : Nat) (ss : List ByteArray) (v : Value) (w : World), ss.length ≤ N → N ≤ 2305843009213693951 → rdS w v ss → smalls ss → Tab w →
    Calls Tryd.prog 22 #[v] w fun e w' => e = .returned (.string (rootF ss)) ∧ Below w.heap.size w w' := by
  intro N
  induction N with
  | zero =>
    intro ss v w hN hN61 hr hs ht
    obtain rfl : ss = [] := List.eq_nil_of_length_eq_zero (by omega)
    obtain ⟨ao, cap, rfl⟩ := rdS_form hr
    have HT := Lib.hid ht
    rw [rootF_nil]
    clear ht hN hs hr
    go_enter Tryd.func22, Tryd.ntmps22
    go_wp2_with fail
    refine (sum_any _ _ HT.out).mono ?_
    rintro e w1 ⟨rfl, hb1⟩
    have HB1 := Lib.hid hb1
    clear hb1
    go_wp2_with fail
    go_ret
    exact ⟨rfl, HB1.out⟩
  | succ N ih =>
    intro ss v w hN hN61 hr hs ht
    by_cases h0 : ss.length = 0
    · obtain rfl : ss = [] := List.eq_nil_of_length_eq_zero h0
      obtain ⟨ao, cap, rfl⟩ := rdS_form hr
      have HT := Lib.hid ht
      rw [rootF_nil]
      clear ht hN hs hr ih h0
      go_enter Tryd.func22, Tryd.ntmps22
      go_wp2_with fail
      refine (sum_any _ _ HT.out).mono ?_
      rintro e w1 ⟨rfl, hb1⟩
      have HB1 := Lib.hid hb1
      clear hb1
      go_wp2_with fail
      go_ret
      exact ⟨rfl, HB1.out⟩
    · by_cases h1 : ss.length = 1
      · obtain ⟨s, rfl⟩ := List.length_eq_one_iff.1 h1
        obtain ⟨b, off, cap, rfl, hc, hbl⟩ := rdS_at hr 0 (by simp)
        have hsz := smalls_at hs 0
        have HT := Lib.hid ht
        simp only [List.getD_cons_zero, Nat.add_zero, List.length_singleton] at hc hsz ⊢
        rw [rootF_one]
        clear ht hN hs hr ih h0 h1
        go_enter Tryd.func22, Tryd.ntmps22
        go_wp2_with fail
        refine (leaf_any s _ hsz HT.out).mono ?_
        rintro e w1 ⟨rfl, hb1⟩
        have HB1 := Lib.hid hb1
        clear hb1
        go_wp2_with fail
        go_ret
        exact ⟨rfl, HB1.out⟩
      · have h2 : 2 ≤ ss.length := by omega
        have hsp := halfF_spec h2
        obtain ⟨k, hk⟩ : ∃ k, k = halfF ss.length := ⟨_, rfl⟩
        have hF := rootF_two h2
        rw [← hk] at hsp hF
        obtain ⟨v1, e1, r1⟩ := rdS_to hr k (by omega)
        obtain ⟨v2, e2, r2⟩ := rdS_from hr k (by omega)
        have hlen := rdS_len hr
        obtain ⟨ao, cap, rfl⟩ := rdS_form hr
        have IH1 := Lib.hid (fun w' (hb : Below w.heap.size w w') => ih (ss.take k) v1 w' (by rw [List.length_take]; omega) (by omega) (r1.below hb) (smalls_take hs k) (ht.below hb))
        have IH2 := Lib.hid (fun w' (hb : Below w.heap.size w w') => ih (ss.drop k) v2 w' (by rw [List.length_drop]; omega) (by omega) (r2.below hb) (smalls_drop hs k) (ht.below hb))
        obtain ⟨n, hn⟩ : ∃ n, n = ss.length := ⟨_, rfl⟩
        rw [← hn] at h2 hsp hlen e1 e2 hk hN ⊢
        have HF := Lib.hid hF
        have HT := Lib.hid ht
        have E1 := Lib.hid e1
        have E2 := Lib.hid e2
        have HK := Lib.hid hk
        have hn61 : n ≤ 2305843009213693951 := by omega
        have hk1 := hsp.1
        have hk2 := hsp.2.1
        have z1 := root32 (ss.take k)
        have z2 := root32 (ss.drop k)
        have HZ := Lib.hid (And.intro z1 z2)
        have hn0 : ((n : Int) == 0) = false := by simp; omega
        have hn1 : ((n : Int) == 1) = false := by simp; omega
        have HBw := Lib.hid (Below.refl w.heap.size w).drew
        obtain ⟨r, hr0⟩ : ∃ r, r = rootF ss := ⟨_, rfl⟩
        rw [← hr0]
        rw [← hr0] at HF
        clear hF ht hN hs hr ih h0 h1 hsp r1 r2 e1 e2 hk hn z1 z2 hr0
        go_enter Tryd.func22, Tryd.ntmps22
        go_wp2_with fail
        refine (half_any n _ (by omega)).mono ?_
        rintro e w0 ⟨rfl, rfl⟩
        rw [← HK.out]
        go_wp2_with fail
        refine Lone.wp_region_order [(0, false), (1, false), (2, false), (4, false), (5, false), (6, false), (3, true), (7, true), (8, true), (9, false)] (fun w' => True) (by kernel_rfl) (by kernel_rfl) rfl (by kernel_rfl) (by intro _ _ d _ _ h; cases d <;> exact h) (trivial) ?_; simp only [List.map_cons, List.map_nil, List.getElem?_toArray, List.getElem?_cons_zero, List.getElem?_cons_succ, Option.getD_some]
        repeat (first | (refine Lone.ro_q (by rfl) (v := ?_) ?_ ?_; rotate_left; (focus (intro w' hSw; (try dsimp only at hSw); go_simp; try with_reducible rfl)); simp only [Act.put, List.setIfInBounds_toArray, List.set_cons_zero, List.set_cons_succ]) | (refine Lone.ro_skip (by rfl) ?_; simp only [Act.put, List.setIfInBounds_toArray, List.set_cons_zero, List.set_cons_succ]))
        refine Lone.ro_q (by rfl) (v := v1) (fun w' hSw => by simp only [execOp, Act.eval, List.getElem?_toArray, List.getElem?_cons_zero, List.getElem?_cons_succ, Array.getD_eq_getD_getElem?, Option.getD_some, Option.map_some, Option.map_none, Sem.run_bind, E1.out, Result.andThen, Sem.run_pure]) ?_; simp only [Act.put, List.setIfInBounds_toArray, List.set_cons_zero, List.set_cons_succ]
        repeat (first | (refine Lone.ro_q (by rfl) (v := ?_) ?_ ?_; rotate_left; (focus (intro w' hSw; (try dsimp only at hSw); go_simp; try with_reducible rfl)); simp only [Act.put, List.setIfInBounds_toArray, List.set_cons_zero, List.set_cons_succ]) | (refine Lone.ro_skip (by rfl) ?_; simp only [Act.put, List.setIfInBounds_toArray, List.set_cons_zero, List.set_cons_succ]))
        refine Lone.ro_q (by rfl) (v := v2) (fun w' hSw => by simp only [execOp, Act.eval, List.getElem?_toArray, List.getElem?_cons_zero, List.getElem?_cons_succ, Array.getD_eq_getD_getElem?, Option.getD_some, Option.map_some, Option.map_none, Sem.run_bind, E2.out, Result.andThen, Sem.run_pure]) ?_; simp only [Act.put, List.setIfInBounds_toArray, List.set_cons_zero, List.set_cons_succ]
        (refine Lone.ro_loud (by rfl) (fun K hK => ?_); go_simp)
        refine (IH1.out _ HBw.out).mono ?_
        rintro e w1 ⟨rfl, hb⟩
        have HB1 := Lib.hid (HBw.out.trans (hb.mono HBw.out.size))
        clear hb
        (refine hK.out _ _ (fun w' => True) (.inl fun _ h => h) (trivial) ?_; clear hK K; try simp only [Act.put, List.setIfInBounds_toArray, List.set_cons_zero, List.set_cons_succ])
        repeat (first | (refine Lone.ro_q (by rfl) (v := ?_) ?_ ?_; rotate_left; (focus (intro w' hSw; (try dsimp only at hSw); go_simp; try with_reducible rfl)); simp only [Act.put, List.setIfInBounds_toArray, List.set_cons_zero, List.set_cons_succ]) | (refine Lone.ro_skip (by rfl) ?_; simp only [Act.put, List.setIfInBounds_toArray, List.set_cons_zero, List.set_cons_succ]))
        (refine Lone.ro_loud (by rfl) (fun K hK => ?_); go_simp)
        refine (IH2.out _ HB1.out).mono ?_
        rintro e w2 ⟨rfl, hb⟩
        have HB2 := Lib.hid (HB1.out.trans (hb.mono HB1.out.size))
        clear hb
        (refine hK.out _ _ (fun w' => True) (.inl fun _ h => h) (trivial) ?_; clear hK K; try simp only [Act.put, List.setIfInBounds_toArray, List.set_cons_zero, List.set_cons_succ])
        repeat (first | (refine Lone.ro_q (by rfl) (v := ?_) ?_ ?_; rotate_left; (focus (intro w' hSw; (try dsimp only at hSw); go_simp; try with_reducible rfl)); simp only [Act.put, List.setIfInBounds_toArray, List.set_cons_zero, List.set_cons_succ]) | (refine Lone.ro_skip (by rfl) ?_; simp only [Act.put, List.setIfInBounds_toArray, List.set_cons_zero, List.set_cons_succ]))
        (refine Lone.ro_loud (by rfl) (fun K hK => ?_); go_simp)
        refine (node_any _ _ _ (by rw [HZ.out.1]; decide) (by rw [HZ.out.2]; decide) (HT.out.below HB2.out)).mono ?_
        rintro e w3 ⟨rfl, hb⟩
        have HB3 := Lib.hid (HB2.out.trans (hb.mono HB2.out.size))
        clear hb
        (refine hK.out _ _ (fun w' => True) (.inl fun _ h => h) (trivial) ?_; clear hK K; try simp only [Act.put, List.setIfInBounds_toArray, List.set_cons_zero, List.set_cons_succ])
        repeat (first | (refine Lone.ro_q (by rfl) (v := ?_) ?_ ?_; rotate_left; (focus (intro w' hSw; (try dsimp only at hSw); go_simp; try with_reducible rfl)); simp only [Act.put, List.setIfInBounds_toArray, List.set_cons_zero, List.set_cons_succ]) | (refine Lone.ro_skip (by rfl) ?_; simp only [Act.put, List.setIfInBounds_toArray, List.set_cons_zero, List.set_cons_succ]))
        (refine Lone.ro_nil ?_; go_wp2_with fail)
        go_ret
        exact ⟨(by rw [HF.out]; rfl), HB3.out⟩
end Go.Proofs.YtmacceamebdelaaDoor
/-! Merkle2 -/
namespace Go.Proofs.YtmacceamebdelaaDoor
open Go.RowKit
set_option linter.unusedVariables false
set_option linter.unusedSimpArgs false

end Go.Proofs.YtmacceamebdelaaDoor
/-! Merkle3 -/
namespace Go.Proofs.YtmacceamebdelaaDoor
open Go.RowKit
set_option linter.unusedVariables false
set_option linter.unusedSimpArgs false

theorem checkF_bad {root s : ByteArray} {n i : Int} {p : List ByteArray} (h : ¬ (1 ≤ n ∧ n ≤ 1099511627776 ∧ 0 ≤ i ∧ i < n)) : mcheckF root n i s p = false := by
  cases hc : mcheckF root n i s p with
  | false => rfl
  | true =>
    simp only [mcheckF, Bool.and_eq_true, decide_eq_true_eq] at hc
    exact absurd ⟨hc.1, hc.2.1, hc.2.2.1, hc.2.2.2.1⟩ h
theorem checkF_ok {root s : ByteArray} {n i : Nat} {p : List ByteArray} (h1 : 1 ≤ n) (h2 : n ≤ 1099511627776) (h3 : i < n) : mcheckF root n i s p = ((upF (leafF s) n i p).2 && decide ((upF (leafF s) n i p).1 = root)) := by
  have e1 : decide ((1 : Int) ≤ (n : Int)) = true := by simp; omega
  have e2 : decide ((n : Int) ≤ 1099511627776) = true := by simp; omega
  have e3 : decide ((0 : Int) ≤ (i : Int)) = true := by simp
  have e4 : decide ((i : Int) < (n : Int)) = true := by simp; omega
  unfold mcheckF
  rw [e1, e2, e3, e4]
  simp only [Int.toNat_natCast, Bool.true_and]
end Go.Proofs.YtmacceamebdelaaDoor
/-! Merkle4 -/
namespace Go.Proofs.YtmacceamebdelaaDoor
open Go.RowKit
set_option linter.unusedVariables false
set_option linter.unusedSimpArgs false

theorem both_small (old : ByteArray) (ho : old.size ≤ 140737488355328) (m n : Nat) (w : Bool) (p : List ByteArray) (hp : smalls p) : (bothF old m n w p).1.size ≤ 140737488355328 ∧ (bothF old m n w p).2.1.size ≤ 140737488355328 := by
  have hz : (⟨#[]⟩ : ByteArray).size ≤ 140737488355328 := by decide
  suffices H : ∀ n m w p, smalls p → (bothF old m n w p).1.size ≤ 140737488355328 ∧ (bothF old m n w p).2.1.size ≤ 140737488355328 from H n m w p hp
  intro n
  induction n using Nat.strongRecOn with
  | _ n ih =>
    intro m w p hp
    by_cases he : m = n
    · subst he
      cases w with
      | true => rw [bothF_whole]; exact ⟨ho, ho⟩
      | false =>
        rw [bothF_part]
        split
        · exact ⟨hz, hz⟩
        · exact ⟨smalls_at hp 0, smalls_at hp 0⟩
    · rcases snoc_cases p with rfl | ⟨q, x, rfl⟩
      · rw [bothF_nil _ _ he]; exact ⟨hz, hz⟩
      · have hq : smalls q := fun y hy => hp y (by simp [hy])
        have hn : ∀ a b, (nodeF a b).size ≤ 140737488355328 := fun a b => by rw [node32]; decide
        by_cases h2 : 2 ≤ n
        · have hs := halfF_spec h2
          by_cases hk : m ≤ halfF n
          · rw [bothF_left _ _ he h2 hk]
            exact ⟨(ih _ hs.2.1 m w q hq).1, hn _ _⟩
          · rw [bothF_right _ _ he h2 hk]
            exact ⟨hn _ _, hn _ _⟩
        · rw [bothF, if_neg he, if_neg (by simp), dif_neg h2]; exact ⟨hz, hz⟩

set_option maxRecDepth 100000 in
set_option maxHeartbeats 1600000 in
theorem both_any : ∀ (N : Nat) (old : ByteArray) (m n : Nat) (wh : Bool) (ps : List ByteArray) (v : Value) (w : World), n ≤ N → N ≤ 1099511627776 → 1 ≤ m → m ≤ n → old.size ≤ 140737488355328 → rdS w v ps → smalls ps → Tab w →
    Calls Tryd.prog 18 #[.string old, .int .i64 (m : Int), .int .i64 (n : Int), .bool wh, v] w fun e w' => e = .returned (.tuple #[.string (bothF old m n wh ps).1, .string (bothF old m n wh ps).2.1, .bool (bothF old m n wh ps).2.2]) ∧ Below w.heap.size w w' := by
  intro N
  induction N with
  | zero => intro old m n wh ps v w h1 _ h2; omega
  | succ N ih =>
    intro old m n wh ps v w hN hN40 hm1 hmn0 hold hr hsm ht
    by_cases hne : m = n
    · subst hne
      have hmd : decide ((m : Int) = (m : Int)) = true := by simp
      cases wh with
      | true =>
        rw [bothF_whole]
        obtain ⟨ao, cap, rfl⟩ := rdS_form hr
        cases ps with
        | nil =>
          clear ht hN hr ih hsm hm1 hmn0 hold hN40
          go_enter Tryd.func18, Tryd.ntmps18
          go_wp2_with fail
          go_ret3
          exact ⟨rfl, Below.refl _ _⟩
        | cons y ys =>
          have hl0 : ((ys.length : Int) + 1 == 0) = false := by simp; omega
          have hm0 : decide ((ys.length : Int) + 1 = 0) = false := by simp; omega
          clear ht hN hr ih hsm hm1 hmn0 hold hN40
          go_enter Tryd.func18, Tryd.ntmps18
          go_wp2_with fail
          go_ret3
          exact ⟨rfl, Below.refl _ _⟩
      | false =>
        rw [bothF_part]
        by_cases h1 : ps.length = 1
        · obtain ⟨x, rfl⟩ := List.length_eq_one_iff.1 h1
          obtain ⟨b, off, cap, rfl, hc, hbl⟩ := rdS_at hr 0 (by simp)
          simp only [List.getD_cons_zero, Nat.add_zero, List.length_singleton] at hc ⊢
          have hcd : w.drew.cell? ⟨b, off, none⟩ = some (.string x) := hc
          clear ht hN hr ih hsm hm1 hmn0 hold hN40 h1
          go_enter Tryd.func18, Tryd.ntmps18
          go_wp2_with fail
          refine Lone.wp_region_order [(0, false), (1, false), (2, false), (3, false), (4, false), (5, false), (6, false), (7, false), (8, false)] (fun w' => w'.cell? ⟨b, off, none⟩ = some (.string x)) (by kernel_rfl) (by kernel_rfl) rfl (by kernel_rfl) (by intro _ _ d _ _ h; cases d <;> exact h) (hcd) ?_; simp only [List.map_cons, List.map_nil, List.getElem?_toArray, List.getElem?_cons_zero, List.getElem?_cons_succ, Option.getD_some]
          repeat (first | (refine Lone.ro_q (by rfl) (v := ?_) ?_ ?_; rotate_left; (focus (intro w' hSw; (try dsimp only at hSw); go_simp; try with_reducible rfl)); simp only [Act.put, List.setIfInBounds_toArray, List.set_cons_zero, List.set_cons_succ]) | (refine Lone.ro_skip (by rfl) ?_; simp only [Act.put, List.setIfInBounds_toArray, List.set_cons_zero, List.set_cons_succ]))
          (refine Lone.ro_nil ?_; go_wp2_with fail)
          go_ret3
          exact ⟨rfl, (Below.refl _ _).drew⟩
        · rw [if_pos h1]
          obtain ⟨ao, cap, rfl⟩ := rdS_form hr
          have hl1 : ((ps.length : Int) == 1) = false := by simp; omega
          have hl2 : (!((ps.length : Int) == 1)) = true := by simp; omega
          clear ht hN hr ih hsm hm1 hmn0 hold hN40
          go_enter Tryd.func18, Tryd.ntmps18
          go_wp2_with fail
          go_ret3
          exact ⟨rfl, Below.refl _ _⟩
    · have h2 : 2 ≤ n := by omega
      rcases snoc_cases ps with rfl | ⟨q, x, rfl⟩
      · rw [bothF_nil _ _ hne]
        obtain ⟨ao, cap, rfl⟩ := rdS_form hr
        have hmn : ((m : Int) == (n : Int)) = false := by simp; omega
        have hmn2 : (m : Int) < (n : Int) := by omega
        clear ht hN hr ih hsm hm1 hmn0 hold hN40
        go_enter Tryd.func18, Tryd.ntmps18
        go_wp2_with fail
        go_ret3
        exact ⟨rfl, Below.refl _ _⟩
      · have hsp := halfF_spec h2
        obtain ⟨k, hk⟩ : ∃ k, k = halfF n := ⟨_, rfl⟩
        obtain ⟨l, hm⟩ : ∃ l, l = q.length := ⟨_, rfl⟩
        have hml : (q ++ [x]).length = l + 1 := by simp [hm]
        have hlen := rdS_len hr
        obtain ⟨v1, e1, r1⟩ := rdS_to hr l (by omega)
        have hq : (q ++ [x]).take l = q := by rw [hm]; simp
        have hxm : (q ++ [x]).getD l ⟨#[]⟩ = x := by rw [hm]; simp
        rw [hq] at r1
        obtain ⟨b, off, cap, rfl, hc, hbl⟩ := rdS_at hr l (by omega)
        rw [hxm] at hc
        have hx : x.size ≤ 140737488355328 := hsm x (by simp)
        have hsq : smalls q := fun y hy => hsm y (by simp [hy])
        rw [hml] at hr e1 hlen ⊢
        clear hq hxm hml hm
        rw [← hk] at hsp
        have hN40 : N ≤ 1099511627776 := by omega
        by_cases hmk0 : m ≤ halfF n
        · have hmk1 : m ≤ k := by omega
          have hF := bothF_left old wh (m := m) (n := n) (p := q) (x := x) hne h2 hmk0
          rw [← hk] at hF
          have IHU := Lib.hid (fun w' (hb : Below w.heap.size w w') => ih old m k wh q v1 w' (by omega) hN40 (by omega) (by omega) hold (r1.below hb) hsq (ht.below hb))
          have hu := both_small old hold m k wh q hsq
          have hmk : (m : Int) ≤ (k : Int) := by omega
          obtain ⟨r, hr0⟩ : ∃ r, r = bothF old m n wh (q ++ [x]) := ⟨_, rfl⟩
          rw [← hr0] at hF ⊢
          have HF := Lib.hid hF
          have HT := Lib.hid ht
          have HK := Lib.hid hk
          have E1 := Lib.hid e1
          have hk1 := hsp.1
          have hk2 := hsp.2.1
          obtain ⟨u, hu0⟩ : ∃ u, u = bothF old m k wh q := ⟨_, rfl⟩
          rw [← hu0] at hu
          have HU := Lib.hid hu0
          have hub1 := hu.1
          have hub2 := hu.2
          have hmn : ((m : Int) == (n : Int)) = false := by simp; omega
          have hmn2 : (m : Int) < (n : Int) := by omega
          have hl0 : ((l : Int) + 1 == 0) = false := by simp; omega
          
          have hn40 : n ≤ 1099511627776 := by omega
          have HBw := Lib.hid (Below.refl w.heap.size w)
          clear hF ht ih r1 e1 hk hr0 hu0 hu hsp h2 hsm hsq hr hmk0 hne hm1 hmn0
          go_enter Tryd.func18, Tryd.ntmps18
          go_wp2_with (first | (refine wpList_slice (by rfl) 35 (.tmp 48) none (some (.tmp 51)) rfl (v' := v1) E1.out ?_))
          refine (half_any n _ (by omega)).mono ?_
          rintro e w0 ⟨rfl, rfl⟩
          rw [← HK.out]
          go_wp2_with fail
          
          (with_reducible refine (IHU.out _ HBw.out).mono ?_)
          rintro e w1 ⟨rfl, hb⟩
          rw [← HU.out]
          have HB1 := Lib.hid hb
          clear hb
          go_wp2_with fail
          refine (node_any u.2.1 x _ hub2 hx (HT.out.below HB1.out)).mono ?_
          rintro e w2 ⟨rfl, hb⟩
          have HB2 := Lib.hid (HB1.out.trans (hb.mono HB1.out.size))
          clear hb
          go_wp2_with fail
          go_ret3
          exact ⟨(by rw [HF.out, ← HU.out]; rfl), HB2.out⟩
        · have hmk1 : k < m := by omega
          have hF := bothF_right old wh (m := m) (n := n) (p := q) (x := x) hne h2 hmk0
          rw [← hk] at hF
          have IHU := Lib.hid (fun w' (hb : Below w.heap.size w w') => ih old (m - k) (n - k) false q v1 w' (by omega) hN40 (by omega) (by omega) hold (r1.below hb) hsq (ht.below hb))
          have hu := both_small old hold (m - k) (n - k) false q hsq
          have hmk : (k : Int) < (m : Int) := by omega
          obtain ⟨r, hr0⟩ : ∃ r, r = bothF old m n wh (q ++ [x]) := ⟨_, rfl⟩
          rw [← hr0] at hF ⊢
          have HF := Lib.hid hF
          have HT := Lib.hid ht
          have HK := Lib.hid hk
          have E1 := Lib.hid e1
          have hk1 := hsp.1
          have hk2 := hsp.2.1
          obtain ⟨u, hu0⟩ : ∃ u, u = bothF old (m - k) (n - k) false q := ⟨_, rfl⟩
          rw [← hu0] at hu
          have HU := Lib.hid hu0
          have hub1 := hu.1
          have hub2 := hu.2
          have hmn : ((m : Int) == (n : Int)) = false := by simp; omega
          have hmn2 : (m : Int) < (n : Int) := by omega
          have hl0 : ((l : Int) + 1 == 0) = false := by simp; omega
          have hs1 : (m : Int) - (k : Int) = ((m - k : Nat) : Int) := by omega
          have hs2 : (n : Int) - (k : Int) = ((n - k : Nat) : Int) := by omega
          have HS1 := Lib.hid hs1
          have HS2 := Lib.hid hs2
          clear hs1 hs2
          have hn40 : n ≤ 1099511627776 := by omega
          have HBw := Lib.hid (Below.refl w.heap.size w)
          clear hF ht ih r1 e1 hk hr0 hu0 hu hsp h2 hsm hsq hr hmk0 hne hm1 hmn0
          go_enter Tryd.func18, Tryd.ntmps18
          go_wp2_with (first | (refine wpList_slice (by rfl) 35 (.tmp 48) none (some (.tmp 51)) rfl (v' := v1) E1.out ?_))
          refine (half_any n _ (by omega)).mono ?_
          rintro e w0 ⟨rfl, rfl⟩
          rw [← HK.out]
          go_wp2_with fail
          rw [HS1.out, HS2.out]
          (with_reducible refine (IHU.out _ HBw.out).mono ?_)
          rintro e w1 ⟨rfl, hb⟩
          rw [← HU.out]
          have HB1 := Lib.hid hb
          clear hb
          go_wp2_with fail
          refine (node_any x u.1 _ hx hub1 (HT.out.below HB1.out)).mono ?_
          rintro e w2 ⟨rfl, hb⟩
          have HB2 := Lib.hid (HB1.out.trans (hb.mono HB1.out.size))
          clear hb
          go_wp2_with fail
          refine (node_any x u.2.1 _ hx hub2 (HT.out.below HB2.out)).mono ?_
          rintro e w3 ⟨rfl, hb⟩
          have HB3 := Lib.hid (HB2.out.trans (hb.mono HB2.out.size))
          clear hb
          go_wp2_with fail
          go_ret3
          exact ⟨(by rw [HF.out, ← HU.out]; rfl), HB3.out⟩

end Go.Proofs.YtmacceamebdelaaDoor
/-! Merkle5 -/
namespace Go.Proofs.YtmacceamebdelaaDoor
open Go.RowKit
set_option linter.unusedVariables false
set_option linter.unusedSimpArgs false

theorem extF_bad {old root : ByteArray} {m n : Int} {p : List ByteArray} (h : m < 0 ∨ n < m ∨ 1099511627776 < n) : extF old m root n p = false := by unfold extF; rw [if_pos h]
theorem extF_zero {old root : ByteArray} {n : Int} {p : List ByteArray} (h : 0 ≤ n) (h2 : n ≤ 1099511627776) : extF old 0 root n p = (p.isEmpty && (decide (old = sumF ⟨#[]⟩) && (decide (0 < n) || decide (root = old)))) := by
  unfold extF; rw [if_neg (by omega), if_pos rfl]
theorem extF_pos {old root : ByteArray} {m n : Nat} {p : List ByteArray} (h1 : 1 ≤ m) (h : m ≤ n) (h2 : n ≤ 1099511627776) :
    extF old m root n p = ((bothF old m n true p).2.2 && (decide ((bothF old m n true p).1 = old) && decide ((bothF old m n true p).2.1 = root))) := by
  unfold extF; rw [if_neg (by omega), if_neg (by omega)]; simp only [Int.toNat_natCast]

set_option maxRecDepth 100000 in
set_option maxHeartbeats 1600000 in
theorem extends_any (old root : ByteArray) (m n : Int) (ps : List ByteArray) (v : Value) (w : World) (hs : old.size ≤ 140737488355328) (hr : rdS w v ps) (hsm : smalls ps) (ht : Tab w) :
    Calls Tryd.prog 9 #[.string old, .int .i64 m, .string root, .int .i64 n, v] w fun e w' => e = .returned (.bool (extF old m root n ps)) ∧ Below w.heap.size w w' := by
  by_cases h1 : m < 0
  · rw [extF_bad (by omega)]
    clear hs hr hsm ht
    go_enter Tryd.func9, Tryd.ntmps9
    go_wp2_with fail
    go_ret
    exact ⟨rfl, Below.refl _ _⟩
  · by_cases h2 : n < m
    · rw [extF_bad (by omega)]
      clear hs hr hsm ht
      go_enter Tryd.func9, Tryd.ntmps9
      go_wp2_with fail
      go_ret
      exact ⟨rfl, Below.refl _ _⟩
    · by_cases h3 : 1099511627776 < n
      · rw [extF_bad (by omega)]
        clear hs hr hsm ht
        go_enter Tryd.func9, Tryd.ntmps9
        go_wp2_with fail
        go_ret
        exact ⟨rfl, Below.refl _ _⟩
      · by_cases h0 : m = 0
        · subst h0
          rw [extF_zero (by omega) (by omega)]
          have HT := Lib.hid ht
          obtain ⟨ao, cap, rfl⟩ := rdS_form hr
          obtain ⟨z, hz⟩ : ∃ z, z = sumF ⟨#[]⟩ := ⟨_, rfl⟩
          rw [← hz]
          have HZ := Lib.hid hz
          clear ht hr hsm h1 hz
          cases ps with
          | cons y ys =>
            have hl0 : ((ys.length : Int) + 1 == 0) = false := by simp; omega
            clear hs
            go_enter Tryd.func9, Tryd.ntmps9
            go_wp2_with fail
            go_ret
            exact ⟨rfl, Below.refl _ _⟩
          | nil =>
            by_cases ho : old = z
            · subst ho
              have hoo := beq_yes old
              by_cases hn : 0 < n
              · have hv : (([] : List ByteArray).isEmpty && (decide (old = old) && (decide (0 < n) || decide (root = old)))) = true := by simp [hn]
                rw [hv]
                clear hv hs
                go_enter Tryd.func9, Tryd.ntmps9
                go_wp2_with fail
                refine (sum_any _ _ HT.out).mono ?_
                rintro e w1 ⟨rfl, hb⟩
                have HB1 := Lib.hid hb
                clear hb
                rw [← HZ.out]
                go_wp2_with fail
                go_ret
                exact ⟨rfl, HB1.out⟩
              · have hn0 : n = 0 := by omega
                subst hn0
                have hv : (([] : List ByteArray).isEmpty && (decide (old = old) && (decide ((0 : Int) < 0) || decide (root = old)))) = (root.toList == old.toList) := by rw [beq_dec]; simp
                rw [hv]
                clear hv hs hn h2 h3
                go_enter Tryd.func9, Tryd.ntmps9
                go_wp2_with fail
                refine (sum_any _ _ HT.out).mono ?_
                rintro e w1 ⟨rfl, hb⟩
                have HB1 := Lib.hid hb
                clear hb
                rw [← HZ.out]
                go_wp2_with fail
                go_ret
                exact ⟨rfl, HB1.out⟩
            · have hoo := beq_no ho
              have hv : (([] : List ByteArray).isEmpty && (decide (old = z) && (decide (0 < n) || decide (root = old)))) = false := by simp [ho]
              rw [hv]
              clear hv hs ho
              go_enter Tryd.func9, Tryd.ntmps9
              go_wp2_with fail
              refine (sum_any _ _ HT.out).mono ?_
              rintro e w1 ⟨rfl, hb⟩
              have HB1 := Lib.hid hb
              clear hb
              rw [← HZ.out]
              go_wp2_with fail
              go_ret
              exact ⟨rfl, HB1.out⟩
        · obtain ⟨a, rfl⟩ : ∃ a : Nat, m = (a : Int) := ⟨m.toNat, by omega⟩
          obtain ⟨b, rfl⟩ : ∃ b : Nat, n = (b : Int) := ⟨n.toNat, by omega⟩
          rw [extF_pos (by omega) (by omega) (by omega)]
          have HBO := Lib.hid (both_any b old a b true ps v w (Nat.le_refl _) (by omega) (by omega) (by omega) hs hr hsm ht)
          obtain ⟨u, hu⟩ : ∃ u, u = bothF old a b true ps := ⟨_, rfl⟩
          rw [← hu]
          have HU := Lib.hid hu
          have g1 : (1 : Int) ≤ (a : Int) := by omega
          have g2 : (b : Int) ≤ 1099511627776 := by omega
          have g3 : (a : Int) ≤ (b : Int) := by omega
          have g4 : ((a : Int) == 0) = false := by simp; omega
          clear hu ht hr hsm h1 h2 h3 h0 hs
          go_enter Tryd.func9, Tryd.ntmps9
          go_wp2_with fail
          (with_reducible refine HBO.out.mono ?_)
          rintro e w1 ⟨rfl, hb⟩
          rw [← HU.out]
          have HB1 := Lib.hid hb
          clear hb
          obtain ⟨r, q, o⟩ := u
          dsimp only
          cases o with
          | false =>
            go_wp2_with fail
            go_ret
            exact ⟨rfl, HB1.out⟩
          | true =>
            by_cases ho : r = old
            · subst ho
              have hoo := beq_yes r
              go_wp2_with fail
              go_ret
              exact ⟨congrArg (fun b => Ending.returned (Value.bool b)) (beq_dec q root), HB1.out⟩
            · have hoo := beq_no ho
              have hv : (true && (decide (r = old) && decide (q = root))) = false := by simp [ho]
              have HV := Lib.hid hv
              clear ho hv
              go_wp2_with fail
              go_ret
              exact ⟨congrArg (fun b => Ending.returned (Value.bool b)) HV.out.symm, HB1.out⟩
theorem pick_law (k : Int) (n : Nat) (hn : 1 ≤ n) : 0 ≤ k % (n : Int) ∧ k % (n : Int) < (n : Int) := ⟨Int.emod_nonneg _ (by omega), Int.emod_lt_of_pos _ (by omega)⟩
set_option maxRecDepth 100000 in
set_option maxHeartbeats 1600000 in
theorem pick_any (k : Int) (n : Nat) (w : World) (hk1 : -9223372036854775808 ≤ k) (hk2 : k ≤ 9223372036854775807) (hn : 1 ≤ n) (hn2 : n ≤ 4611686018427387904) :
    Calls Tryd.prog 4 #[.int .i64 k, .int .i64 (n : Int)] w fun e w' => e = .returned (.int .i64 (k % (n : Int))) ∧ w = w' := by
  have hp := pick_law k n hn
  obtain ⟨r, hr⟩ : ∃ r, r = k % (n : Int) := ⟨_, rfl⟩
  rw [← hr] at hp ⊢
  by_cases h0 : 0 ≤ k
  · have ht : k.tmod (n : Int) = r := by rw [Int.tmod_eq_emod_of_nonneg h0, hr]
    have he : k % (n : Int) = r := hr.symm
    have hn1 : (1 : Int) ≤ (n : Int) := by omega
    obtain ⟨p1, p2⟩ := hp
    clear hr
    go_enter Tryd.func4, Tryd.ntmps4
    go_wp2_with fail
    go_ret
    exact ⟨rfl, rfl⟩
  · obtain ⟨x, hx⟩ : ∃ x, x = k.tmod (n : Int) := ⟨_, rfl⟩
    have hneg : k.tmod (n : Int) = - ((-k) % (n : Int)) := by
      have : k = -(-k) := by omega
      rw [this, Int.neg_tmod, Int.tmod_eq_emod_of_nonneg (by omega)]; simp
    have hb := pick_law (-k) n hn
    have hn1 : (1 : Int) ≤ (n : Int) := by omega
    have hx1 : -(n : Int) < x := by rw [hx, hneg]; omega
    have hx2 : x ≤ 0 := by rw [hx, hneg]; omega
    have hmod : x % (n : Int) = r := by
      rw [hr, hx]
      have := Int.tmod_add_mul_tdiv k (n : Int)
      rw [← Int.add_mul_emod_self_left (k.tmod (n : Int)) (n : Int) (k.tdiv (n : Int)), this]
    have ht : k.tmod (n : Int) = x := hx.symm
    by_cases hz : x < 0
    · have hxr : x + (n : Int) = r := by
        rw [← hmod, ← Int.add_emod_right, Int.emod_eq_of_lt (by omega) (by omega)]
      have HXR := Lib.hid hxr
      clear hr hx hneg hb hmod hp hxr h0 hk1 hk2
      go_enter Tryd.func4, Tryd.ntmps4
      go_wp2_with fail
      go_ret
      exact ⟨(by rw [← HXR.out]; rfl), rfl⟩
    · have hx0 : x = 0 := by omega
      have hr0 : r = 0 := by rw [← hmod, hx0]; simp
      subst hx0
      subst hr0
      clear hr hx hneg hb hmod hp h0 hk1 hk2
      go_enter Tryd.func4, Tryd.ntmps4
      go_wp2_with fail
      go_ret
      exact ⟨rfl, rfl⟩
end Go.Proofs.YtmacceamebdelaaDoor
