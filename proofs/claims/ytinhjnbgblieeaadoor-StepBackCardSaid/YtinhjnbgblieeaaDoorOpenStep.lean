/- A step that comes in, opened. -/
import Derived.Test.YtinhjnbgblieeaaDoorStp
import Derived.Test.YtinhjnbgblieeaaDoorOpen
import Derived.ProofKit
import Derived.OpenShut
import Derived.Deep.Slices
namespace Go.Proofs.YtinhjnbgblieeaaDoor
open Go.ChangeShapes Go.WideShapes Go.ChangeAt Go.RowKit
set_option linter.unusedVariables false
set_option linter.unusedSimpArgs false

theorem openS1 {H : Type} {enc : TypeId × Value → H} {w : World} {sp : Nat → Bool} {held : Bool} {fuel : Nat} {c : Value} {x : DataW H × List MemPlace}
    (h : DataW.trod enc Tryd.prog w 0 sp held fuel 23 [c] = some x) : ∃ ss : List ByteArray, rdS w c ss := by
  have hc1 : Tryd.prog.cellsOf 9 = 1 := by kernel_rfl
  rcases Deep.open_slice Tryd.underlying23 h with ⟨hcs, _⟩ | ⟨a, len, cap, m, n, D, Pl, hcs, _, hl, hm, hmm, _, hel⟩
  · obtain rfl : c = .slice none 0 0 := by simpa using hcs
    exact ⟨[], rfl, none, 0, rfl, Nat.le_refl _, by decide, fun _ => rfl, fun _ h => by cases h⟩
  · obtain rfl : c = .slice (some a) len cap := by simpa using hcs
    have hlm : len ≤ m := by rw [hmm]; split <;> omega
    have each : ∀ i, i < len → ∃ s : ByteArray, w.cell? (a.add i) = some (.string s) := by
      intro i hi
      obtain ⟨cs', h1, h2⟩ := hel i (by omega)
      rw [hc1] at h1
      obtain ⟨_, hlen, hcell⟩ := World.cells?_some h1
      obtain ⟨s0, e0, _⟩ := DataW.trod_string Tryd.underlying9 h2
      subst e0
      refine ⟨s0, ?_⟩
      have := hcell 0 (by omega)
      rw [Deep.add_add] at this
      simpa using this
    obtain ⟨f, hf⟩ := Deep.choose_lt each
    refine ⟨(List.range len).map f, ?_, some a, cap, by simp, by simpa using hl, hm, (fun h => by cases h), fun b hb j u hu => ?_⟩
    · simp [svs]
    · obtain rfl := Option.some.inj hb
      have hj : j < len := by
        have := (List.getElem?_eq_some_iff.1 hu).1
        simpa [svs] using this
      rw [hf j hj]
      simp [svs, hj] at hu
      rw [hu]
theorem openI1 {H : Type} {enc : TypeId × Value → H} {w : World} {sp : Nat → Bool} {held : Bool} {fuel : Nat} {c : Value} {x : DataW H × List MemPlace}
    (h : DataW.trod enc Tryd.prog w 0 sp held fuel 22 [c] = some x) : ∃ ss : List Int, rdI w c ss := by
  have hc1 : Tryd.prog.cellsOf 3 = 1 := by kernel_rfl
  rcases Deep.open_slice Tryd.underlying22 h with ⟨hcs, _⟩ | ⟨a, len, cap, m, n, D, Pl, hcs, _, hl, hm, hmm, _, hel⟩
  · obtain rfl : c = .slice none 0 0 := by simpa using hcs
    exact ⟨[], rfl, none, 0, rfl, Nat.le_refl _, by decide, fun _ => rfl, fun _ h => by cases h⟩
  · obtain rfl : c = .slice (some a) len cap := by simpa using hcs
    have hlm : len ≤ m := by rw [hmm]; split <;> omega
    have each : ∀ i, i < len → ∃ s : Int, w.cell? (a.add i) = some (.int .i64 s) := by
      intro i hi
      obtain ⟨cs', h1, h2⟩ := hel i (by omega)
      rw [hc1] at h1
      obtain ⟨_, hlen, hcell⟩ := World.cells?_some h1
      obtain ⟨s0, e0, _⟩ := DataW.trod_int Tryd.underlying3 h2
      subst e0
      refine ⟨s0, ?_⟩
      have := hcell 0 (by omega)
      rw [Deep.add_add] at this
      simpa using this
    obtain ⟨f, hf⟩ := Deep.choose_lt each
    refine ⟨(List.range len).map f, ?_, some a, cap, by simp, by simpa using hl, hm, (fun h => by cases h), fun b hb j u hu => ?_⟩
    · simp [ivs]
    · obtain rfl := Option.some.inj hb
      have hj : j < len := by
        have := (List.getElem?_eq_some_iff.1 hu).1
        simpa [ivs] using this
      rw [hf j hj]
      simp [ivs, hj] at hu
      rw [hu]
set_option maxRecDepth 100000 in
theorem open_step {H : Type} {enc : TypeId × Value → H} {W : World} {b0 : Nat} {sp : Nat → Bool} {held : Bool} {v : Value} {d : DataW H} {p : List MemPlace}
    (hv : Value.okWide Tryd.prog W .any b0 25 v) (h : DataW.Trod enc Tryd.prog W 0 sp held 25 v d p) :
    ∃ (s : Stp) (vw vs : Value), v = .agg #[.string s.ref, .string s.old, .string s.new, vw, vs] ∧ rdI W vw s.who ∧ rdS W vs s.seals := by
  obtain ⟨cs, rfl, hsz⟩ := okWide_struct Tryd.underlying25 hv
  have hc : Tryd.prog.cellsOf 25 = 5 := by kernel_rfl
  have hcs : Tryd.prog.cellsOf 9 = 1 := by kernel_rfl
  have hce : Tryd.prog.cellsOf 22 = 1 := by kernel_rfl
  have hcp : Tryd.prog.cellsOf 23 = 1 := by kernel_rfl
  obtain ⟨l⟩ := cs
  match l, hsz.trans hc with
  | [c0, c1, c2, c3, c4], _ =>
    obtain ⟨fuel, hf⟩ := h
    obtain ⟨xs, n, _, hx, _, hlen, hg⟩ := DataW.trod_struct Tryd.underlying25 hf
    match xs, hlen with
    | [y0, y1, y2, y3, y4], _ =>
      have h0 : DataW.trod enc Tryd.prog W 0 sp held n 9 (([c0, c1, c2, c3, c4].drop 0).take (Tryd.prog.cellsOf 9)) = some y0 := hg 0 _ rfl
      have h1 : DataW.trod enc Tryd.prog W 0 sp held n 9 (([c0, c1, c2, c3, c4].drop 1).take (Tryd.prog.cellsOf 9)) = some y1 := hg 1 _ rfl
      have h2 : DataW.trod enc Tryd.prog W 0 sp held n 9 (([c0, c1, c2, c3, c4].drop 2).take (Tryd.prog.cellsOf 9)) = some y2 := hg 2 _ rfl
      have h3 : DataW.trod enc Tryd.prog W 0 sp held n 22 (([c0, c1, c2, c3, c4].drop 3).take (Tryd.prog.cellsOf 22)) = some y3 := hg 3 _ rfl
      have h4 : DataW.trod enc Tryd.prog W 0 sp held n 23 (([c0, c1, c2, c3, c4].drop 4).take (Tryd.prog.cellsOf 23)) = some y4 := hg 4 _ rfl
      rw [hcs] at h0 h1 h2
      rw [hce] at h3
      rw [hcp] at h4
      obtain ⟨s0, e0, _⟩ := DataW.trod_string Tryd.underlying9 h0
      obtain ⟨s1, e1, _⟩ := DataW.trod_string Tryd.underlying9 h1
      obtain ⟨s2, e2, _⟩ := DataW.trod_string Tryd.underlying9 h2
      obtain ⟨zs, e3⟩ := openI1 (c := c3) h3
      obtain ⟨ss, e4⟩ := openS1 (c := c4) h4
      have e0' : c0 = .string s0 := by simpa using e0
      have e1' : c1 = .string s1 := by simpa using e1
      have e2' : c2 = .string s2 := by simpa using e2
      subst e0' e1' e2'
      exact ⟨⟨s0, s1, s2, zs, ss⟩, c3, c4, rfl, e3, e4⟩
end Go.Proofs.YtinhjnbgblieeaaDoor
