/- Texts put together: Open OpenRows OpenHead OpenStep OpenSteps. -/
import Derived.Test.YtafgbmeibnhapaaDoorBas
import Derived.ProofKit
import Derived.OpenShut
import Derived.SizedLaws
import Derived.Test.YtafgbmeibnhapaaDoorChecked
import Derived.Deep.Slices
import Derived.Test.YtafgbmeibnhapaaDoorStA
import Derived.Test.YtafgbmeibnhapaaDoorStB
/-! Open -/
namespace Go.Proofs.YtafgbmeibnhapaaDoor
open Go.ChangeShapes Go.WideShapes Go.ChangeAt Go.RowKit

theorem reach_num : reachBytes = 140737488351232 := by decide

section
variable {H : Type} {enc : TypeId × Value → H} {P : Program} {w : World} {held : Bool} {fuel : Nat}

theorem weights_le {ts : List TypeId} {ds : List (DataW H)} (h : (DataW.weightsEach P ts ds).all (· ≤ reachBytes) = true) {j : Nat} {t : TypeId} {d : DataW H} (ht : ts[j]? = some t) (hd : ds[j]? = some d) :
    ∀ n ∈ d.weights P t, n ≤ 140737488351232 := by
  intro n hn
  have := List.all_eq_true.1 h _ (DataW.weights_mem_each ht hd n hn)
  rw [← reach_num]; simpa using this

theorem weightsAll_mem {e : TypeId} : ∀ {l : List (DataW H)} {d : DataW H}, d ∈ l → ∀ n ∈ d.weights P e, n ∈ DataW.weightsAll P e l
  | d0 :: r, d, hd, n, hn => by
    rw [DataW.weightsAll, List.mem_append]
    rcases List.mem_cons.1 hd with rfl | h
    · exact .inl hn
    · exact .inr (weightsAll_mem h n hn)

theorem open_rdStrs {t e : TypeId} (ht : P.underlying t = some (.slice e)) (he : P.underlying e = some .string) (hc : P.cellsOf e = 1) (hby : P.bytesOf e = 16)
    {a : Option Addr} {len cap : Nat} {d : DataW H} {p : List MemPlace}
    (h : DataW.trod enc P w 0 (fun _ => true) held fuel t [.slice a len cap] = some (d, p)) (hw : ∀ n ∈ d.weights P t, n ≤ 140737488351232) :
    ∃ ss : List ByteArray, rdRow w 1 (.slice a len cap) len (ss.map .string) ∧ (∀ s ∈ ss, s.size ≤ 140737488351232) ∧ len * 16 ≤ 140737488351232 ∧ (d = .nil ∧ ss = [] ∨ ∃ sp, d = .slice (strs ss) sp) := by
  rcases open_strings ht he hc h with ⟨hcs, hx⟩ | ⟨x, l, c, ss, hcs, _, hl, hm, hz, hx, hcell, hws⟩
  · simp only [List.cons.injEq, Value.slice.injEq, and_true] at hcs
    obtain ⟨rfl, rfl, rfl⟩ := hcs
    simp only [Prod.mk.injEq] at hx
    exact ⟨[], ⟨by simp, none, 0, rfl, Nat.le_refl _, by decide, fun _ => rfl, fun _ h => by cases h⟩, by simp, by omega, .inl ⟨hx.1, rfl⟩⟩
  · simp only [List.cons.injEq, Value.slice.injEq, and_true] at hcs
    obtain ⟨rfl, rfl, rfl⟩ := hcs
    simp only [if_true] at hz
    simp only [Prod.mk.injEq] at hx
    obtain ⟨rfl, rfl⟩ := hx
    have hlen : (ss.take len).length = len := by simp; omega
    refine ⟨ss.take len, ⟨by simp; omega, some x, cap, rfl, hl, hm, (fun h => by cases h), fun b hb j u hu => ?_⟩, ?_, ?_, .inr ⟨_, rfl⟩⟩
    · obtain rfl := Option.some.inj hb
      have hj : j < len := by have := (List.getElem?_eq_some_iff.1 hu).1; simp at this; omega
      rw [hcell j (by omega)]
      rw [List.getElem?_map, List.getElem?_take, if_pos hj, List.getElem?_eq_getElem (by omega)] at hu
      simp only [Option.map_some, Option.some.injEq] at hu
      rw [← hu, List.getD, List.getElem?_eq_getElem (by omega)]; rfl
    · intro s hs
      have : s.data.toList.length ≤ 140737488351232 := by
        refine hw _ ?_
        rw [DataW.weights, ht]
        refine List.mem_cons_of_mem _ (List.mem_append_left _ (weightsAll_mem (d := .lit (.string s.data.toList)) ?_ _ ?_))
        · simp only [strs, List.mem_map]; exact ⟨s, hs, rfl⟩
        · simp [DataW.weights]
      simpa using this
    · have := hw ((strs (H := H) (ss.take len)).length * 16 + (strs (H := H) (ss.drop len)).length * 16) (by rw [DataW.weights, ht, ← hby, ← Nat.add_mul]; exact List.mem_cons_self)
      simp only [strs, List.length_map, hlen] at this
      omega

theorem open_rdInts {t e : TypeId} {k : IntKind} (ht : P.underlying t = some (.slice e)) (he : P.underlying e = some (.int k)) (hc : P.cellsOf e = 1) {by_ : Nat} (hby : P.bytesOf e = by_)
    {a : Option Addr} {len cap : Nat} {d : DataW H} {p : List MemPlace}
    (h : DataW.trod enc P w 0 (fun _ => true) held fuel t [.slice a len cap] = some (d, p)) (hw : ∀ n ∈ d.weights P t, n ≤ 140737488351232) :
    ∃ zs : List Int, rdRow w 1 (.slice a len cap) len (zs.map (.int k)) ∧ (∀ n ∈ zs, (Lit.int k n).wf = true) ∧ len * by_ ≤ 140737488351232 ∧ (d = .nil ∧ zs = [] ∨ ∃ sp, d = .slice (lits k zs) sp) := by
  rcases open_ints ht he hc h with ⟨hcs, hx⟩ | ⟨x, l, c, zs, hcs, _, hl, hm, hz, hx, hcell, hws⟩
  · simp only [List.cons.injEq, Value.slice.injEq, and_true] at hcs
    obtain ⟨rfl, rfl, rfl⟩ := hcs
    simp only [Prod.mk.injEq] at hx
    exact ⟨[], ⟨by simp, none, 0, rfl, Nat.le_refl _, by decide, fun _ => rfl, fun _ h => by cases h⟩, by simp, by omega, .inl ⟨hx.1, rfl⟩⟩
  · simp only [List.cons.injEq, Value.slice.injEq, and_true] at hcs
    obtain ⟨rfl, rfl, rfl⟩ := hcs
    simp only [if_true] at hz
    simp only [Prod.mk.injEq] at hx
    obtain ⟨rfl, rfl⟩ := hx
    have hlen : (zs.take len).length = len := by simp; omega
    refine ⟨zs.take len, ⟨by simp; omega, some x, cap, rfl, hl, hm, (fun h => by cases h), fun b hb j u hu => ?_⟩, fun n hn => hws n (List.mem_of_mem_take hn), ?_, .inr ⟨_, rfl⟩⟩
    · obtain rfl := Option.some.inj hb
      have hj : j < len := by have := (List.getElem?_eq_some_iff.1 hu).1; simp at this; omega
      rw [hcell j (by omega)]
      rw [List.getElem?_map, List.getElem?_take, if_pos hj, List.getElem?_eq_getElem (by omega)] at hu
      simp only [Option.map_some, Option.some.injEq] at hu
      rw [← hu, List.getD, List.getElem?_eq_getElem (by omega)]; rfl
    · have := hw ((lits (H := H) k (zs.take len)).length * by_ + (lits (H := H) k (zs.drop len)).length * by_) (by rw [DataW.weights, ht, ← hby, ← Nat.add_mul]; exact List.mem_cons_self)
      simp only [lits, List.length_map, hlen] at this
      omega
end
end Go.Proofs.YtafgbmeibnhapaaDoor
/-! OpenRows -/
namespace Go.Proofs.YtafgbmeibnhapaaDoor
open Go.ChangeShapes Go.WideShapes Go.ChangeAt Go.RowKit
set_option linter.unusedVariables false
set_option linter.unusedSimpArgs false

theorem open_rows {α : Type} {k : Nat} {f : α → List Value} (hk : ∀ x, (f x).length = k) (hk0 : 0 < k) (d : α) {H : Type} {enc : TypeId × Value → H} {w : World} {sp : Nat → Bool} {held : Bool} {T e : TypeId}
    (hu : Tryd.prog.underlying T = some (.slice e)) (hcell : Tryd.prog.cellsOf e = k) {R : α → Prop}
    (each : ∀ (n : Nat) (cs : List Value) (x : DataW H × List MemPlace), DataW.trod enc Tryd.prog w 0 sp held n e cs = some x → cs.length = k → ∃ y, cs = f y ∧ R y)
    {fuel : Nat} {c : Value} {x : DataW H × List MemPlace} (h : DataW.trod enc Tryd.prog w 0 sp held fuel T [c] = some x) : ∃ l : List α, rdG k f w c l ∧ ∀ y ∈ l, R y := by
  rcases Deep.open_slice hu h with ⟨hcs, _⟩ | ⟨a, len, cap, m, n, D, Pl, hcs, _, hl, hm, hmm, _, hel⟩
  · obtain rfl : c = .slice none 0 0 := by simpa using hcs
    exact ⟨[], rdG_nil _, fun _ h => by cases h⟩
  · obtain rfl : c = .slice (some a) len cap := by simpa using hcs
    have hlm : len ≤ m := by rw [hmm]; split <;> omega
    have each' : ∀ i, i < len → ∃ y : α, R y ∧ ∀ r u, (f y)[r]? = some u → w.cell? (a.add (i * k + r)) = some u := by
      intro i hi
      obtain ⟨cs', h1, h2⟩ := hel i (by omega)
      rw [hcell] at h1
      obtain ⟨_, hlen, hcl⟩ := World.cells?_some h1
      obtain ⟨y, rfl, hy⟩ := each _ _ _ h2 hlen
      refine ⟨y, hy, fun r u hu => ?_⟩
      have hr : r < k := by have := (List.getElem?_eq_some_iff.1 hu).1; rw [hk] at this; exact this
      have := hcl r hr
      rw [Deep.add_add] at this
      rw [this]; exact hu
    haveI : Inhabited α := ⟨d⟩
    obtain ⟨g, hg⟩ := Deep.choose_lt each'
    refine ⟨(List.range len).map g, ⟨?_, some a, cap, by simp, by simpa using hl, hm, (fun h => by cases h), fun b hb j u hu => ?_⟩, fun y hy => ?_⟩
    · rw [gvs_length hk]
    · obtain rfl := Option.some.inj hb
      have hj : j < len * k := by
        have := (List.getElem?_eq_some_iff.1 hu).1
        rw [gvs_length hk] at this; simpa using this
      have h1 : j / k < len := Nat.div_lt_of_lt_mul (by rw [Nat.mul_comm]; exact hj)
      have h2 : j % k < k := Nat.mod_lt _ hk0
      have h3 : j / k * k + j % k = j := by rw [Nat.mul_comm]; exact Nat.div_add_mod j k
      have e0 := gvs_get hk ((List.range len).map g) (j / k) d (by simpa using h1) (j % k) h2
      have e1 : ((List.range len).map g).getD (j / k) d = g (j / k) := by rw [List.getD, List.getElem?_map, List.getElem?_range h1]; rfl
      rw [e1, h3, hu] at e0
      have := (hg (j / k) h1).2 _ _ e0.symm
      rw [h3] at this
      exact this
    · obtain ⟨i, hi, rfl⟩ := List.mem_map.1 hy
      exact (hg i (by simpa using hi)).1
/-- How long a slice that comes in may be, by its weight. -/
theorem rows_len {H : Type} {enc : TypeId × Value → H} {w : World} {sp : Nat → Bool} {held : Bool} {T e : TypeId} (hu : Tryd.prog.underlying T = some (.slice e)) {by_ : Nat} (hb : Tryd.prog.bytesOf e = by_)
    {fuel : Nat} {a : Option Addr} {len cap : Nat} {d : DataW H} {p : List MemPlace} (h : DataW.trod enc Tryd.prog w 0 sp held fuel T [.slice a len cap] = some (d, p)) (hw : ∀ n ∈ d.weights Tryd.prog T, n ≤ 140737488351232) : len * by_ ≤ 140737488351232 := by
  rcases Deep.open_slice hu h with ⟨hcs, _⟩ | ⟨a', len', cap', m, n, D, Pl, hcs, _, hl, hm, hmm, hx, hel⟩
  · have : len = 0 := by simp only [List.cons.injEq, Value.slice.injEq, and_true] at hcs; exact hcs.2.1
    rw [this]; omega
  · have e1 : len = len' := by simp only [List.cons.injEq, Value.slice.injEq, and_true] at hcs; exact hcs.2.1
    subst e1
    have hd : d = _ := congrArg Prod.fst hx
    simp only at hd
    rw [hd, DataW.weights, hu] at hw
    have := hw _ (List.mem_cons_self)
    rw [hb] at this
    simp only [List.length_map, List.length_range] at this
    have h2 : len * by_ ≤ (len + (m - len)) * by_ := Nat.mul_le_mul_right _ (by omega)
    omega
end Go.Proofs.YtafgbmeibnhapaaDoor
/-! OpenHead -/
namespace Go.Proofs.YtafgbmeibnhapaaDoor
open Go.ChangeShapes Go.WideShapes Go.ChangeAt Go.RowKit
set_option linter.unusedVariables false
set_option linter.unusedSimpArgs false

end Go.Proofs.YtafgbmeibnhapaaDoor
/-! OpenStep -/
namespace Go.Proofs.YtafgbmeibnhapaaDoor
open Go.ChangeShapes Go.WideShapes Go.ChangeAt Go.RowKit
set_option linter.unusedVariables false
set_option linter.unusedSimpArgs false

end Go.Proofs.YtafgbmeibnhapaaDoor
/-! OpenSteps -/
namespace Go.Proofs.YtafgbmeibnhapaaDoor
open Go.ChangeShapes Go.WideShapes Go.ChangeAt Go.RowKit
set_option linter.unusedVariables false
set_option linter.unusedSimpArgs false

end Go.Proofs.YtafgbmeibnhapaaDoor
