/- Reach in plain Lean. -/
import Derived.Test.YtalkheljejkpiaaDoorDesLaw
import Derived.Test.YtalkheljejkpiaaDoorStore4
import Derived.Sort.KeysCollected
namespace Go.Proofs.YtalkheljejkpiaaDoor
set_option linter.unusedVariables false
set_option linter.unusedSimpArgs false

/-- The work is a stack: its head is looked at next. What has been seen, whether something lacked, whether something was wrong; nothing where there is too much. -/
noncomputable def reG (g : ByteArray → ByteArray × Int) : Nat → List ByteArray → List ByteArray → Bool → Bool → Option (List ByteArray × Bool × Bool)
  | 0, _, _, _, _ => none
  | _ + 1, seen, [], lk, wg => some (seen, lk, wg)
  | n + 1, seen, x :: r, lk, wg =>
    if hasB seen x = true then reG g n seen r lk wg else if (g x).2 ≠ 0 then reG g n seen r true wg else
    if (decodeF (g x).1).2 ≠ 0 then reG g n seen r lk true else if 400 ≤ seen.length then none else reG g n (seen ++ [x]) ((linksF (decodeF (g x).1).1).reverse ++ r) lk wg
def muR (seen st : List ByteArray) : Nat := (400 - seen.length) * 65 + st.length
def sortF (l : List ByteArray) : List ByteArray := ((l.map fun b => b.data.toList).mergeSort leB).map fun b => ⟨b.toArray⟩
noncomputable def reachF (g : ByteArray → ByteArray × Int) (ids : List ByteArray) : List ByteArray × Int :=
  match reG g (26001 + ids.length) [] ids.reverse false false with
  | none => ([], 6)
  | some (seen, lk, wg) => if lk = true then ([], 7) else if wg = true then ([], 2) else (sortF seen, 0)
section
variable {g : ByteArray → ByteArray × Int} {n : Nat} {seen r : List ByteArray} {x s : ByteArray} {lk wg : Bool} {e : Int} {o : ObjS}
theorem reG_0 : reG g (n + 1) seen [] lk wg = some (seen, lk, wg) := rfl
theorem reG_1 (h : hasB seen x = true) : reG g (n + 1) seen (x :: r) lk wg = reG g n seen r lk wg := by rw [reG, if_pos h]
theorem reG_2 (h : hasB seen x = false) (hg : g x = (s, e)) (he : e ≠ 0) : reG g (n + 1) seen (x :: r) lk wg = reG g n seen r true wg := by rw [reG, if_neg (by rw [h]; decide), hg, if_pos he]
theorem reG_3 (h : hasB seen x = false) (hg : g x = (s, 0)) (hd : decodeF s = (o, e)) (he : e ≠ 0) : reG g (n + 1) seen (x :: r) lk wg = reG g n seen r lk true := by
  rw [reG, if_neg (by rw [h]; decide), hg, if_neg (by simp)]; dsimp only; rw [hd, if_pos he]
theorem reG_4 (h : hasB seen x = false) (hg : g x = (s, 0)) (hd : decodeF s = (o, 0)) (h4 : 400 ≤ seen.length) : reG g (n + 1) seen (x :: r) lk wg = none := by
  rw [reG, if_neg (by rw [h]; decide), hg, if_neg (by simp)]; dsimp only; rw [hd, if_neg (by simp), if_pos h4]
theorem reG_5 (h : hasB seen x = false) (hg : g x = (s, 0)) (hd : decodeF s = (o, 0)) (h4 : ¬ 400 ≤ seen.length) : reG g (n + 1) seen (x :: r) lk wg = reG g n (seen ++ [x]) ((linksF o).reverse ++ r) lk wg := by
  rw [reG, if_neg (by rw [h]; decide), hg, if_neg (by simp)]; dsimp only; rw [hd, if_neg (by simp), if_neg h4]
end
theorem reachF_1 {g : ByteArray → ByteArray × Int} {ids : List ByteArray} (h : reG g (26001 + ids.length) [] ids.reverse false false = none) : reachF g ids = ([], 6) := by unfold reachF; rw [h]
theorem reachF_2 {g : ByteArray → ByteArray × Int} {ids seen : List ByteArray} {wg : Bool} (h : reG g (26001 + ids.length) [] ids.reverse false false = some (seen, true, wg)) : reachF g ids = ([], 7) := by unfold reachF; rw [h]; rfl
theorem reachF_3 {g : ByteArray → ByteArray × Int} {ids seen : List ByteArray} (h : reG g (26001 + ids.length) [] ids.reverse false false = some (seen, false, true)) : reachF g ids = ([], 2) := by unfold reachF; rw [h]; rfl
theorem reachF_4 {g : ByteArray → ByteArray × Int} {ids seen : List ByteArray} (h : reG g (26001 + ids.length) [] ids.reverse false false = some (seen, false, false)) : reachF g ids = (sortF seen, 0) := by unfold reachF; rw [h]; rfl
end Go.Proofs.YtalkheljejkpiaaDoor
