/- A list of refs that comes in, opened. -/
import Derived.Test.YtnggcldpojebkaaDoorRefs1
import Derived.Test.YtnggcldpojebkaaDoorOpen
import Derived.ProofKit
import Derived.OpenShut
import Derived.Deep.Slices
namespace Go.Proofs.YtnggcldpojebkaaDoor
open Go.ChangeShapes Go.WideShapes Go.ChangeAt Go.RowKit
set_option linter.unusedVariables false
set_option linter.unusedSimpArgs false

theorem rvs_map (f : Nat → Rf) (n : Nat) : ∀ k, k < n → ∀ r, r < 2 → (rvs ((List.range n).map f))[k * 2 + r]? = [Value.string (f k).name, .string (f k).id][r]? := by
  intro k hk r hr
  have h := rvs_get ((List.range n).map f) k (by simpa using hk)
  have e : ((List.range n).map f).getD k zeroRf = f k := by rw [List.getD, List.getElem?_map, List.getElem?_range hk]; rfl
  rw [e] at h
  match r, hr with
  | 0, _ => exact h.1
  | 1, _ => exact h.2
theorem open_rdRefs {H : Type} {enc : TypeId × Value → H} {w : World} {sp : Nat → Bool} {held : Bool} {fuel : Nat} {c : Value} {x : DataW H × List MemPlace}
    (h : DataW.trod enc Tryd.prog w 0 sp held fuel 22 [c] = some x) : ∃ l : List Rf, rdR w c l := by
  rcases Deep.open_slice Tryd.underlying22 h with ⟨hcs, _⟩ | ⟨a, len, cap, m, n, D, Pl, hcs, _, hl, hm, hmm, _, hel⟩
  · obtain rfl : c = .slice none 0 0 := by simpa using hcs
    exact ⟨[], rdR_nil _⟩
  · obtain rfl : c = .slice (some a) len cap := by simpa using hcs
    have hlm : len ≤ m := by rw [hmm]; split <;> omega
    have hc3 : Tryd.prog.cellsOf 33 = 2 := by kernel_rfl
    have hcs1 : Tryd.prog.cellsOf 9 = 1 := by kernel_rfl
    have each : ∀ i, i < len → ∃ e : Rf, ∀ r, r < 2 → w.cell? (a.add (i * 2 + r)) = [Value.string e.name, .string e.id][r]? := by
      intro i hi
      obtain ⟨cs', h1, h2⟩ := hel i (by omega)
      rw [hc3] at h1
      obtain ⟨_, hlen, hcell⟩ := World.cells?_some h1
      obtain ⟨xs, k, hk, hxy, _, hxl, hf⟩ := DataW.trod_struct Tryd.underlying33 h2
      match cs', hlen with
      | [v0, v1], _ =>
        match xs, hxl with
        | [y0, y1], _ =>
          have g0' : DataW.trod enc Tryd.prog w 0 sp held k 9 (([v0, v1].drop 0).take (Tryd.prog.cellsOf 9)) = some y0 := hf 0 _ rfl
          have g1' : DataW.trod enc Tryd.prog w 0 sp held k 9 (([v0, v1].drop 1).take (Tryd.prog.cellsOf 9)) = some y1 := hf 1 _ rfl
          rw [hcs1] at g0' g1'
          obtain ⟨s0, e0, _⟩ := DataW.trod_string Tryd.underlying9 g0'
          obtain ⟨s1, e1, _⟩ := DataW.trod_string Tryd.underlying9 g1'
          have e0' : v0 = .string s0 := by simpa using e0
          have e1' : v1 = .string s1 := by simpa using e1
          subst e0' e1'
          refine ⟨⟨s0, s1⟩, fun r hr => ?_⟩
          have := hcell r hr
          rw [Deep.add_add] at this
          exact this
    haveI : Inhabited Rf := ⟨zeroRf⟩
    obtain ⟨f, hf⟩ := Deep.choose_lt each
    refine ⟨(List.range len).map f, ?_, some a, cap, by simp, by simpa using hl, hm, (fun h => by cases h), fun b hb j u hu => ?_⟩
    · rw [rvs_length]
    · obtain rfl := Option.some.inj hb
      have hj : j < len * 2 := by
        have := (List.getElem?_eq_some_iff.1 hu).1
        rw [rvs_length] at this; simpa using this
      have e := rvs_map f len (j / 2) (by omega) (j % 2) (by omega)
      rw [show j / 2 * 2 + j % 2 = j by omega] at e
      have c := hf (j / 2) (by omega) (j % 2) (by omega)
      rw [show j / 2 * 2 + j % 2 = j by omega] at c
      rw [c, ← e]; exact hu
theorem open_refs {H : Type} {enc : TypeId × Value → H} {W : World} {b0 : Nat} {sp : Nat → Bool} {held : Bool} {v : Value} {d : DataW H} {p : List MemPlace}
    (hv : Value.okWide Tryd.prog W .any b0 22 v) (h : DataW.Trod enc Tryd.prog W 0 sp held 22 v d p) : ∃ l : List Rf, rdR W v l := by
  obtain ⟨a, len, cap, rfl⟩ := okWide_slice Tryd.underlying22 hv
  obtain ⟨fuel, hf⟩ := h
  exact open_rdRefs hf
end Go.Proofs.YtnggcldpojebkaaDoor
