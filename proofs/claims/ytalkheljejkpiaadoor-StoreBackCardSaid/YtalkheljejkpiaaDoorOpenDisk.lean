/- A disk that comes in, opened. -/
import Derived.Test.YtalkheljejkpiaaDoorDkA
import Derived.Test.YtalkheljejkpiaaDoorOpn
import Derived.ProofKit
import Derived.OpenShut
import Derived.Deep.Slices
namespace Go.Proofs.YtalkheljejkpiaaDoor
open Go.ChangeShapes Go.WideShapes Go.ChangeAt Go.RowKit
set_option linter.unusedVariables false
set_option linter.unusedSimpArgs false

theorem fvs_map (f : Nat → Fil) (n : Nat) : ∀ k, k < n → ∀ r, r < 3 → (fvs ((List.range n).map f))[k * 3 + r]? = [Value.string (f k).name, .string (f k).safe, .string (f k).tail][r]? := by
  intro k hk r hr
  have h := fvs_get ((List.range n).map f) k (by simpa using hk)
  have e : ((List.range n).map f).getD k zeroFil = f k := by rw [List.getD, List.getElem?_map, List.getElem?_range hk]; rfl
  rw [e] at h
  match r, hr with
  | 0, _ => exact h.1
  | 1, _ => exact h.2.1
  | 2, _ => exact h.2.2
theorem open_rdFiles {H : Type} {enc : TypeId × Value → H} {w : World} {sp : Nat → Bool} {held : Bool} {fuel : Nat} {c : Value} {x : DataW H × List MemPlace}
    (h : DataW.trod enc Tryd.prog w 0 sp held fuel 36 [c] = some x) : ∃ l : List Fil, rdF w c l := by
  rcases Deep.open_slice Tryd.underlying36 h with ⟨hcs, _⟩ | ⟨a, len, cap, m, n, D, Pl, hcs, _, hl, hm, hmm, _, hel⟩
  · obtain rfl : c = .slice none 0 0 := by simpa using hcs
    exact ⟨[], rdF_nil _⟩
  · obtain rfl : c = .slice (some a) len cap := by simpa using hcs
    have hlm : len ≤ m := by rw [hmm]; split <;> omega
    have hc3 : Tryd.prog.cellsOf 92 = 3 := by kernel_rfl
    have hcs1 : Tryd.prog.cellsOf 9 = 1 := by kernel_rfl
    have each : ∀ i, i < len → ∃ e : Fil, ∀ r, r < 3 → w.cell? (a.add (i * 3 + r)) = [Value.string e.name, .string e.safe, .string e.tail][r]? := by
      intro i hi
      obtain ⟨cs', h1, h2⟩ := hel i (by omega)
      rw [hc3] at h1
      obtain ⟨_, hlen, hcell⟩ := World.cells?_some h1
      obtain ⟨xs, k, hk, hxy, _, hxl, hf⟩ := DataW.trod_struct Tryd.underlying92 h2
      match cs', hlen with
      | [v0, v1, v2], _ =>
        match xs, hxl with
        | [y0, y1, y2], _ =>
          have g0' : DataW.trod enc Tryd.prog w 0 sp held k 9 (([v0, v1, v2].drop 0).take (Tryd.prog.cellsOf 9)) = some y0 := hf 0 _ rfl
          have g1' : DataW.trod enc Tryd.prog w 0 sp held k 9 (([v0, v1, v2].drop 1).take (Tryd.prog.cellsOf 9)) = some y1 := hf 1 _ rfl
          have g2' : DataW.trod enc Tryd.prog w 0 sp held k 9 (([v0, v1, v2].drop 2).take (Tryd.prog.cellsOf 9)) = some y2 := hf 2 _ rfl
          rw [hcs1] at g0' g1' g2'
          obtain ⟨s0, e0, _⟩ := DataW.trod_string Tryd.underlying9 g0'
          obtain ⟨s1, e1, _⟩ := DataW.trod_string Tryd.underlying9 g1'
          obtain ⟨s2, e2, _⟩ := DataW.trod_string Tryd.underlying9 g2'
          have e0' : v0 = .string s0 := by simpa using e0
          have e1' : v1 = .string s1 := by simpa using e1
          have e2' : v2 = .string s2 := by simpa using e2
          subst e0' e1' e2'
          refine ⟨⟨s0, s1, s2⟩, fun r hr => ?_⟩
          have := hcell r hr
          rw [Deep.add_add] at this
          exact this
    haveI : Inhabited Fil := ⟨zeroFil⟩
    obtain ⟨f, hf⟩ := Deep.choose_lt each
    refine ⟨(List.range len).map f, ?_, some a, cap, by simp, by simpa using hl, hm, (fun h => by cases h), fun b hb j u hu => ?_⟩
    · rw [fvs_length]
    · obtain rfl := Option.some.inj hb
      have hj : j < len * 3 := by
        have := (List.getElem?_eq_some_iff.1 hu).1
        rw [fvs_length] at this; simpa using this
      have e := fvs_map f len (j / 3) (by omega) (j % 3) (by omega)
      rw [show j / 3 * 3 + j % 3 = j by omega] at e
      have c := hf (j / 3) (by omega) (j % 3) (by omega)
      rw [show j / 3 * 3 + j % 3 = j by omega] at c
      rw [c, ← e]; exact hu
theorem open_disk {H : Type} {enc : TypeId × Value → H} {W : World} {b0 : Nat} {sp : Nat → Bool} {held : Bool} {v : Value} {d : DataW H} {p : List MemPlace}
    (hv : Value.okWide Tryd.prog W .any b0 38 v) (h : DataW.Trod enc Tryd.prog W 0 sp held 38 v d p) : ∃ (l : List Fil) (f : Int) (vf : Value), v = .agg #[vf, .int .i64 f] ∧ rdF W vf l ∧ -9223372036854775808 ≤ f ∧ f ≤ 9223372036854775807 := by
  obtain ⟨cs, rfl, hsz⟩ := okWide_struct Tryd.underlying38 hv
  have hc : Tryd.prog.cellsOf 38 = 2 := by kernel_rfl
  have hci : Tryd.prog.cellsOf 3 = 1 := by kernel_rfl
  have hce : Tryd.prog.cellsOf 36 = 1 := by kernel_rfl
  obtain ⟨l⟩ := cs
  match l, hsz.trans hc with
  | [c0, c1], _ =>
    obtain ⟨fuel, hf⟩ := h
    obtain ⟨xs, n, _, hx, _, hlen, hg⟩ := DataW.trod_struct Tryd.underlying38 hf
    match xs, hlen with
    | [y0, y1], _ =>
      have h0 : DataW.trod enc Tryd.prog W 0 sp held n 36 (([c0, c1].drop 0).take (Tryd.prog.cellsOf 36)) = some y0 := hg 0 _ rfl
      have h1 : DataW.trod enc Tryd.prog W 0 sp held n 3 (([c0, c1].drop 1).take (Tryd.prog.cellsOf 3)) = some y1 := hg 1 _ rfl
      rw [hce] at h0
      rw [hci] at h1
      obtain ⟨ls, e0⟩ := open_rdFiles (c := c0) h0
      obtain ⟨k, e1, _, hw⟩ := DataW.trod_int Tryd.underlying3 h1
      have e1' : c1 = .int .i64 k := by simpa using e1
      subst e1'
      have hb := bounds_i64 hw
      exact ⟨ls, k, c0, rfl, e0, by omega, by omega⟩
end Go.Proofs.YtalkheljejkpiaaDoor
