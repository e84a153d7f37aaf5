/- An object that comes in, opened. -/
import Derived.Test.YtmjnohblifihmaaObject1
import Derived.Test.YtmjnohblifihmaaOpen
import Derived.ProofKit
import Derived.OpenShut
import Derived.Deep.Slices
namespace Go.Proofs.Ytmjnohblifihmaa
open Go.ChangeShapes Go.WideShapes Go.ChangeAt Go.RowKit
set_option linter.unusedVariables false
set_option linter.unusedSimpArgs false

instance : Inhabited Ent := ⟨zeroE⟩
theorem evs_map (f : Nat → Ent) (n : Nat) : ∀ k, k < n → ∀ r, r < 3 → (evs ((List.range n).map f))[k * 3 + r]? = [Value.string (f k).name, .bool (f k).dir, .string (f k).id][r]? := by
  have key : ∀ (l : List Ent) (k : Nat), k < l.length → ∀ r, r < 3 → (evs l)[k * 3 + r]? = [Value.string (l.getD k zeroE).name, .bool (l.getD k zeroE).dir, .string (l.getD k zeroE).id][r]? := by
    intro l
    induction l with
    | nil => intro k hk; cases hk
    | cons x l ih =>
      intro k hk r hr
      cases k with
      | zero =>
        match r, hr with
        | 0, _ => rfl
        | 1, _ => rfl
        | 2, _ => rfl
      | succ k =>
        rw [show (k + 1) * 3 + r = (k * 3 + r) + 3 by omega]
        exact ih k (by simpa using hk) r hr
  intro k hk r hr
  have h := key ((List.range n).map f) k (by simpa using hk) r hr
  rw [getD_of _ _ _ (by simpa using hk)] at h
  simpa using h
theorem open_rdEnts {H : Type} {enc : TypeId × Value → H} {w : World} {sp : Nat → Bool} {held : Bool} {fuel : Nat} {c : Value} {x : DataW H × List MemPlace}
    (h : DataW.trod enc Try.prog w 0 sp held fuel 22 [c] = some x) : ∃ es : List Ent, rdE w c es := by
  rcases Deep.open_slice Try.underlying22 h with ⟨hcs, _⟩ | ⟨a, len, cap, m, n, D, Pl, hcs, _, hl, hm, hmm, _, hel⟩
  · obtain rfl : c = .slice none 0 0 := by simpa using hcs
    exact ⟨[], rfl, none, 0, rfl, Nat.le_refl _, by decide, fun _ => rfl, fun _ h => by cases h⟩
  · obtain rfl : c = .slice (some a) len cap := by simpa using hcs
    have hlm : len ≤ m := by rw [hmm]; split <;> omega
    have hc3 : Try.prog.cellsOf 45 = 3 := by kernel_rfl
    have hcs1 : Try.prog.cellsOf 9 = 1 := by kernel_rfl
    have hcb : Try.prog.cellsOf 4 = 1 := by kernel_rfl
    have each : ∀ i, i < len → ∃ e : Ent, ∀ r, r < 3 → w.cell? (a.add (i * 3 + r)) = [Value.string e.name, .bool e.dir, .string e.id][r]? := by
      intro i hi
      obtain ⟨cs', h1, h2⟩ := hel i (by omega)
      rw [hc3] at h1
      obtain ⟨_, hlen, hcell⟩ := World.cells?_some h1
      obtain ⟨xs, k, hk, hxy, _, hxl, hf⟩ := DataW.trod_struct Try.underlying45 h2
      match cs', hlen with
      | [v0, v1, v2], _ =>
        match xs, hxl with
        | [y0, y1, y2], _ =>
          have g0' : DataW.trod enc Try.prog w 0 sp held k 9 (([v0, v1, v2].drop 0).take (Try.prog.cellsOf 9)) = some y0 := hf 0 _ rfl
          have g1' : DataW.trod enc Try.prog w 0 sp held k 4 (([v0, v1, v2].drop 1).take (Try.prog.cellsOf 4)) = some y1 := hf 1 _ rfl
          have g2' : DataW.trod enc Try.prog w 0 sp held k 9 (([v0, v1, v2].drop 2).take (Try.prog.cellsOf 9)) = some y2 := hf 2 _ rfl
          rw [hcs1] at g0' g2'
          rw [hcb] at g1'
          obtain ⟨s0, e0, _⟩ := DataW.trod_string Try.underlying9 g0'
          obtain ⟨b1, e1, _⟩ := DataW.trod_bool Try.underlying4 g1'
          obtain ⟨s2, e2, _⟩ := DataW.trod_string Try.underlying9 g2'
          have e0' : v0 = .string s0 := by simpa using e0
          have e1' : v1 = .bool b1 := by simpa using e1
          have e2' : v2 = .string s2 := by simpa using e2
          subst e0' e1' e2'
          refine ⟨⟨s0, b1, s2⟩, fun r hr => ?_⟩
          have := hcell r hr
          rw [Deep.add_add] at this
          exact this
    obtain ⟨f, hf⟩ := Deep.choose_lt each
    refine ⟨(List.range len).map f, ?_, some a, cap, by simp, by simpa using hl, hm, (fun h => by cases h), fun b hb j u hu => ?_⟩
    · rw [evs_length]
    · obtain rfl := Option.some.inj hb
      have hj : j < len * 3 := by
        have := (List.getElem?_eq_some_iff.1 hu).1
        rw [evs_length] at this; simpa using this
      have e := evs_map f len (j / 3) (by omega) (j % 3) (by omega)
      rw [show j / 3 * 3 + j % 3 = j by omega] at e
      have c := hf (j / 3) (by omega) (j % 3) (by omega)
      rw [show j / 3 * 3 + j % 3 = j by omega] at c
      rw [c, ← e]; exact hu
theorem open_rdStrs1 {H : Type} {enc : TypeId × Value → H} {w : World} {sp : Nat → Bool} {held : Bool} {fuel : Nat} {c : Value} {x : DataW H × List MemPlace}
    (h : DataW.trod enc Try.prog w 0 sp held fuel 23 [c] = some x) : ∃ ss : List ByteArray, rdS w c ss := by
  have hc1 : Try.prog.cellsOf 9 = 1 := by kernel_rfl
  rcases Deep.open_slice Try.underlying23 h with ⟨hcs, _⟩ | ⟨a, len, cap, m, n, D, Pl, hcs, _, hl, hm, hmm, _, hel⟩
  · obtain rfl : c = .slice none 0 0 := by simpa using hcs
    exact ⟨[], rfl, none, 0, rfl, Nat.le_refl _, by decide, fun _ => rfl, fun _ h => by cases h⟩
  · obtain rfl : c = .slice (some a) len cap := by simpa using hcs
    have hlm : len ≤ m := by rw [hmm]; split <;> omega
    have each : ∀ i, i < len → ∃ s : ByteArray, w.cell? (a.add i) = some (.string s) := by
      intro i hi
      obtain ⟨cs', h1, h2⟩ := hel i (by omega)
      rw [hc1] at h1
      obtain ⟨_, hlen, hcell⟩ := World.cells?_some h1
      obtain ⟨s0, e0, _⟩ := DataW.trod_string Try.underlying9 h2
      subst e0
      refine ⟨s0, ?_⟩
      have := hcell 0 (by omega)
      rw [Deep.add_add] at this
      simpa using this
    obtain ⟨f, hf⟩ := Deep.choose_lt each
    refine ⟨(List.range len).map f, ?_, some a, cap, by simp, by simpa using hl, hm, (fun h => by cases h), fun b hb j u hu => ?_⟩
    · simp [svs]
    · obtain rfl := Option.some.inj hb
      have hj : j < len := by
        have := (List.getElem?_eq_some_iff.1 hu).1
        simpa [svs] using this
      rw [hf j hj]
      simp [svs, hj] at hu
      rw [hu]
theorem open_object {H : Type} {enc : TypeId × Value → H} {W : World} {b0 : Nat} {sp : Nat → Bool} {held : Bool} {v : Value} {d : DataW H} {p : List MemPlace}
    (hv : Value.okWide Try.prog W .any b0 25 v) (h : DataW.Trod enc Try.prog W 0 sp held 25 v d p) : ∃ (o : Obj) (ve vp : Value), v = .agg (objC o ve vp).toArray ∧ rdE W ve o.ents ∧ rdS W vp o.pars := by
  obtain ⟨cs, rfl, hsz⟩ := okWide_struct Try.underlying25 hv
  have hc : Try.prog.cellsOf 25 = 9 := by kernel_rfl
  have hcs : Try.prog.cellsOf 9 = 1 := by kernel_rfl
  have hci : Try.prog.cellsOf 3 = 1 := by kernel_rfl
  have hce : Try.prog.cellsOf 22 = 1 := by kernel_rfl
  have hcp : Try.prog.cellsOf 23 = 1 := by kernel_rfl
  obtain ⟨l⟩ := cs
  match l, hsz.trans hc with
  | [c0, c1, c2, c3, c4, c5, c6, c7, c8], _ =>
    obtain ⟨fuel, hf⟩ := h
    obtain ⟨xs, n, _, hx, _, hlen, hg⟩ := DataW.trod_struct Try.underlying25 hf
    match xs, hlen with
    | [y0, y1, y2, y3, y4, y5, y6, y7, y8], _ =>
      have h0 : DataW.trod enc Try.prog W 0 sp held n 3 (([c0, c1, c2, c3, c4, c5, c6, c7, c8].drop 0).take (Try.prog.cellsOf 3)) = some y0 := hg 0 _ rfl
      have h1 : DataW.trod enc Try.prog W 0 sp held n 9 (([c0, c1, c2, c3, c4, c5, c6, c7, c8].drop 1).take (Try.prog.cellsOf 9)) = some y1 := hg 1 _ rfl
      have h2 : DataW.trod enc Try.prog W 0 sp held n 22 (([c0, c1, c2, c3, c4, c5, c6, c7, c8].drop 2).take (Try.prog.cellsOf 22)) = some y2 := hg 2 _ rfl
      have h3 : DataW.trod enc Try.prog W 0 sp held n 9 (([c0, c1, c2, c3, c4, c5, c6, c7, c8].drop 3).take (Try.prog.cellsOf 9)) = some y3 := hg 3 _ rfl
      have h4 : DataW.trod enc Try.prog W 0 sp held n 23 (([c0, c1, c2, c3, c4, c5, c6, c7, c8].drop 4).take (Try.prog.cellsOf 23)) = some y4 := hg 4 _ rfl
      have h5 : DataW.trod enc Try.prog W 0 sp held n 9 (([c0, c1, c2, c3, c4, c5, c6, c7, c8].drop 5).take (Try.prog.cellsOf 9)) = some y5 := hg 5 _ rfl
      have h6 : DataW.trod enc Try.prog W 0 sp held n 9 (([c0, c1, c2, c3, c4, c5, c6, c7, c8].drop 6).take (Try.prog.cellsOf 9)) = some y6 := hg 6 _ rfl
      have h7 : DataW.trod enc Try.prog W 0 sp held n 3 (([c0, c1, c2, c3, c4, c5, c6, c7, c8].drop 7).take (Try.prog.cellsOf 3)) = some y7 := hg 7 _ rfl
      have h8 : DataW.trod enc Try.prog W 0 sp held n 9 (([c0, c1, c2, c3, c4, c5, c6, c7, c8].drop 8).take (Try.prog.cellsOf 9)) = some y8 := hg 8 _ rfl
      rw [hci] at h0 h7
      rw [hcs] at h1 h3 h5 h6 h8
      rw [hce] at h2
      rw [hcp] at h4
      obtain ⟨k, e0, _⟩ := DataW.trod_int Try.underlying3 h0
      obtain ⟨s1, e1, _⟩ := DataW.trod_string Try.underlying9 h1
      obtain ⟨es, e2⟩ := open_rdEnts (c := c2) h2
      obtain ⟨s3, e3, _⟩ := DataW.trod_string Try.underlying9 h3
      obtain ⟨ss, e4⟩ := open_rdStrs1 (c := c4) h4
      obtain ⟨s5, e5, _⟩ := DataW.trod_string Try.underlying9 h5
      obtain ⟨s6, e6, _⟩ := DataW.trod_string Try.underlying9 h6
      obtain ⟨t7, e7, _⟩ := DataW.trod_int Try.underlying3 h7
      obtain ⟨s8, e8, _⟩ := DataW.trod_string Try.underlying9 h8
      have e0' : c0 = .int .i64 k := by simpa using e0
      have e1' : c1 = .string s1 := by simpa using e1
      have e3' : c3 = .string s3 := by simpa using e3
      have e5' : c5 = .string s5 := by simpa using e5
      have e6' : c6 = .string s6 := by simpa using e6
      have e7' : c7 = .int .i64 t7 := by simpa using e7
      have e8' : c8 = .string s8 := by simpa using e8
      subst e0' e1' e3' e5' e6' e7' e8'
      exact ⟨⟨k, s1, es, s3, ss, s5, s6, t7, s8⟩, c2, c4, rfl, e2, e4⟩
end Go.Proofs.Ytmjnohblifihmaa
