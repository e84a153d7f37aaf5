/- Marks upon heads in plain Lean: Mark and Check, and their law. -/
import Derived.Test.YtinhjnbgblieeaaDoorHdA
import Derived.Test.YtinhjnbgblieeaaDoorStA
namespace Go.Proofs.YtinhjnbgblieeaaDoor
set_option linter.unusedVariables false
set_option linter.unusedSimpArgs false

section
variable (sl : ByteArray → ByteArray → ByteArray)
def headW : ByteArray := ⟨#[104, 101, 97, 100]⟩
def markF (who : Int) (key : ByteArray) (n : Int) (r : ByteArray) : (Int × ByteArray) × Int :=
  if (textF n r).2 ≠ 0 then ((0, noB), (textF n r).2) else if who < 0 ∨ 4 ≤ who then ((0, noB), 3) else ((who, sl key (headW ++ (textF n r).1)), 0)
/-- A row of marks: the number of a witness, and its seal. -/
def mkW (M : List (Int × ByteArray)) (k : Nat) : Int := (M.getD k (0, noB)).1
def mkS (M : List (Int × ByteArray)) (k : Nat) : ByteArray := (M.getD k (0, noB)).2
def rowH (ws : List ByteArray) (t : ByteArray) (M : List (Int × ByteArray)) (k : Nat) : Int :=
  if mkW M k < 0 ∨ min (ws.length : Int) 4 ≤ mkW M k ∨ (0 < k ∧ mkW M k ≤ mkW M (k - 1)) then 3 else if sl (ws.getD (mkW M k).toNat noB) (headW ++ t) ≠ mkS M k then 13 else 0
def checkHF (ws : List ByteArray) (n : Int) (r : ByteArray) (M : List (Int × ByteArray)) : Int :=
  if (textF n r).2 ≠ 0 then (textF n r).2 else if firstE (rowH sl ws (textF n r).1 M) 0 M.length ≠ 0 then firstE (rowH sl ws (textF n r).1 M) 0 M.length else if M.length < 3 then 13 else 0
/-- The marks of the witnesses below k that are among who. -/
def marksF (ws : List ByteArray) (t : ByteArray) (who : List Int) : Nat → List (Int × ByteArray)
  | 0 => []
  | k + 1 => if (k : Int) ∈ who then marksF ws t who k ++ [((k : Int), sl (ws.getD k noB) (headW ++ t))] else marksF ws t who k
def GoodM (ws : List ByteArray) (t : ByteArray) (k : Nat) (M : List (Int × ByteArray)) : Prop :=
  (∀ p ∈ M, 0 ≤ p.1 ∧ p.1 < (k : Int) ∧ p.2 = sl (ws.getD p.1.toNat noB) (headW ++ t)) ∧ (M.map Prod.fst).Pairwise (· < ·)
theorem marksF_good (ws : List ByteArray) (t : ByteArray) (who : List Int) : ∀ k, GoodM sl ws t k (marksF sl ws t who k)
  | 0 => ⟨fun _ h => (by cases h), List.Pairwise.nil⟩
  | k + 1 => by
    obtain ⟨h1, h2⟩ := marksF_good ws t who k
    unfold marksF
    split
    · refine ⟨fun p hp => ?_, ?_⟩
      · rcases List.mem_append.1 hp with hp | hp
        · have := h1 p hp; exact ⟨this.1, by omega, this.2.2⟩
        · obtain rfl := List.mem_singleton.1 hp
          exact ⟨by show (0 : Int) ≤ (k : Int); omega, by show (k : Int) < _; omega, by show _ = sl (ws.getD ((k : Int)).toNat noB) _; rw [Int.toNat_natCast]⟩
      · rw [List.map_append]
        refine List.pairwise_append.2 ⟨h2, by simp, fun a ha b hb => ?_⟩
        obtain rfl := List.mem_singleton.1 hb
        obtain ⟨p, hp, rfl⟩ := List.mem_map.1 ha
        exact (h1 p hp).2.1
    · exact ⟨fun p hp => by have := h1 p hp; exact ⟨this.1, by omega, this.2.2⟩, h2⟩
theorem marksF_len (ws : List ByteArray) (t : ByteArray) (who : List Int) : ∀ k, (marksF sl ws t who k).length ≤ k
  | 0 => Nat.le_refl _
  | k + 1 => by
    have := marksF_len ws t who k
    unfold marksF
    split
    · rw [List.length_append]; show _ + 1 ≤ _; omega
    · omega
theorem rowH_good {ws : List ByteArray} {t : ByteArray} {M : List (Int × ByteArray)} (h : GoodM sl ws t 4 M) (hw : 4 ≤ ws.length) {k : Nat} (hk : k < M.length) : rowH sl ws t M k = 0 := by
  obtain ⟨h1, h2⟩ := h
  have e : M.getD k (0, noB) = M[k] := by rw [List.getD, List.getElem?_eq_getElem hk]; rfl
  have hp := h1 M[k] (List.getElem_mem hk)
  unfold rowH mkW mkS
  rw [e, if_neg, if_neg (by rw [hp.2.2]; simp)]
  rintro (a | a | ⟨a, b⟩)
  · omega
  · have : min (ws.length : Int) 4 = 4 := by omega
    omega
  · have e2 : M.getD (k - 1) (0, noB) = M[k - 1] := by rw [List.getD, List.getElem?_eq_getElem (by omega)]; rfl
    rw [e2] at b
    have := List.pairwise_iff_getElem.1 h2 (k - 1) k (by simp; omega) (by simpa using hk) (by omega)
    simp only [List.getElem_map] at this
    omega
theorem checkHF_good {ws : List ByteArray} {n : Int} {r : ByteArray} {M : List (Int × ByteArray)} (hg : goodH n r = 0) (h : GoodM sl ws (headB n r) 4 M) (hw : 4 ≤ ws.length) : checkHF sl ws n r M = if M.length < 3 then 13 else 0 := by
  unfold checkHF
  rw [textF_ok hg]
  rw [if_neg (by simp), firstE_all (fun j _ hj => rowH_good sl h hw (by omega)), if_neg (by simp)]
theorem checkHF_other {ws : List ByteArray} {n : Int} {r q : ByteArray} {M : List (Int × ByteArray)} (hg : goodH n r = 0) (hq : q.size = 32) (h : GoodM sl ws (headB n r) 4 M) (hw : 4 ≤ ws.length) (hM : 0 < M.length) :
    checkHF sl ws n q M = 13 ∨ sl (ws.getD (mkW M 0).toNat noB) (headW ++ headB n r) = sl (ws.getD (mkW M 0).toNat noB) (headW ++ headB n q) := by
  obtain ⟨h0, h1, _⟩ := goodH_ok hg
  have hg2 : goodH n q = 0 := goodH_of h0 h1 hq
  have e : M.getD 0 (0, noB) = M[0] := by rw [List.getD, List.getElem?_eq_getElem hM]; rfl
  have hp := h.1 M[0] (List.getElem_mem hM)
  by_cases c : sl (ws.getD (mkW M 0).toNat noB) (headW ++ headB n r) = sl (ws.getD (mkW M 0).toNat noB) (headW ++ headB n q)
  · exact .inr c
  · left
    have hr : rowH sl ws (headB n q) M 0 = 13 := by
      unfold rowH
      rw [if_neg, if_pos]
      · intro k
        apply c
        unfold mkW mkS at *
        rw [e] at *
        rw [k, hp.2.2]
      · unfold mkW
        rw [e]
        rintro (a | a | ⟨a, b⟩)
        · omega
        · have : min (ws.length : Int) 4 = 4 := by omega
          omega
        · omega
    have hf := firstE_at (f := rowH sl ws (headB n q) M) (k := 0) (by rw [hr]; decide) (k0 := 0) (c := M.length) (Nat.le_refl _) (by omega) (fun j a b => by omega)
    unfold checkHF
    rw [textF_ok hg2]
    rw [if_neg (by simp), if_pos (by rw [hf, hr]; decide), hf, hr]
end
end Go.Proofs.YtinhjnbgblieeaaDoor
