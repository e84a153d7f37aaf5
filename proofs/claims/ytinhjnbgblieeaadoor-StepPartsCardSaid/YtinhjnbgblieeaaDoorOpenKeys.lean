/- Keys that come in, opened. -/
import Derived.Test.YtinhjnbgblieeaaDoorBas
import Derived.Test.YtinhjnbgblieeaaDoorOpn
import Derived.ProofKit
import Derived.OpenShut
import Derived.Deep.Slices
namespace Go.Proofs.YtinhjnbgblieeaaDoor
open Go.ChangeShapes Go.WideShapes Go.ChangeAt Go.RowKit
set_option linter.unusedVariables false
set_option linter.unusedSimpArgs false

set_option maxRecDepth 100000 in
theorem open_keys {H : Type} {enc : TypeId × Value → H} {W : World} {b0 : Nat} {held : Bool} {v : Value} {d : DataW H} {p : List MemPlace}
    (hw : ∀ n ∈ d.weights Tryd.prog 34, n ≤ 140737488351232)
    (hv : Value.okWide Tryd.prog W .any b0 34 v) (h : DataW.Trod enc Tryd.prog W 0 (fun _ => true) held 34 v d p) :
    ∃ (a b : List ByteArray) (n : Int) (va vb : Value), v = .agg #[va, vb, .int .i64 n] ∧ rdS W va a ∧ rdS W vb b ∧ (∀ s ∈ a, s.size ≤ 140737488351232) ∧ (∀ s ∈ b, s.size ≤ 140737488351232) ∧ -9223372036854775808 ≤ n ∧ n ≤ 9223372036854775807 := by
  obtain ⟨cs, rfl, hsz⟩ := okWide_struct Tryd.underlying34 hv
  have hc : Tryd.prog.cellsOf 34 = 3 := by kernel_rfl
  have hci : Tryd.prog.cellsOf 3 = 1 := by kernel_rfl
  have hce : Tryd.prog.cellsOf 23 = 1 := by kernel_rfl
  obtain ⟨l⟩ := cs
  match l, hsz.trans hc with
  | [c0, c1, c2], _ =>
    obtain ⟨fuel, hf⟩ := h
    obtain ⟨xs, n, _, hx, _, hlen, hg⟩ := DataW.trod_struct Tryd.underlying34 hf
    match xs, hlen with
    | [y0, y1, y2], _ =>
      have h0 : DataW.trod enc Tryd.prog W 0 (fun _ => true) held n 23 (([c0, c1, c2].drop 0).take (Tryd.prog.cellsOf 23)) = some y0 := hg 0 _ rfl
      have h1 : DataW.trod enc Tryd.prog W 0 (fun _ => true) held n 23 (([c0, c1, c2].drop 1).take (Tryd.prog.cellsOf 23)) = some y1 := hg 1 _ rfl
      have h2 : DataW.trod enc Tryd.prog W 0 (fun _ => true) held n 3 (([c0, c1, c2].drop 2).take (Tryd.prog.cellsOf 3)) = some y2 := hg 2 _ rfl
      rw [hce] at h0 h1
      rw [hci] at h2
      have hd : d = .agg [y0.1, y1.1, y2.1] := by simpa using congrArg Prod.fst hx
      rw [hd, DataW.weights, Tryd.underlying34] at hw
      have e0 : ∀ m ∈ y0.1.weights Tryd.prog 23, m ≤ 140737488351232 := fun m hm => hw m (List.mem_append_left _ hm)
      have e1 : ∀ m ∈ y1.1.weights Tryd.prog 23, m ≤ 140737488351232 := fun m hm => hw m (List.mem_append_right _ (List.mem_append_left _ hm))
      obtain ⟨k, e2, _, hk⟩ := DataW.trod_int Tryd.underlying3 h2
      have e2' : c2 = .int .i64 k := by simpa using e2
      subst e2'
      have hb := bounds_i64 hk
      have one : ∀ (c : Value) (y : DataW H × List MemPlace), DataW.trod enc Tryd.prog W 0 (fun _ => true) held n 23 [c] = some y → (∀ m ∈ y.1.weights Tryd.prog 23, m ≤ 140737488351232) → ∃ a : List ByteArray, rdS W c a ∧ ∀ s ∈ a, s.size ≤ 140737488351232 := by
        intro c y hy hwy
        rcases Deep.open_slice Tryd.underlying23 hy with ⟨hcs, _⟩ | ⟨a, len, cap, m, n, D, Pl, hcs, _, hl, hm, hmm, _, hel⟩
        · obtain rfl : c = .slice none 0 0 := by simpa using hcs
          exact ⟨[], ⟨rfl, none, 0, rfl, Nat.le_refl _, by decide, fun _ => rfl, fun _ h => by cases h⟩, fun _ h => by cases h⟩
        · obtain rfl : c = .slice (some a) len cap := by simpa using hcs
          obtain ⟨ss, q1, q2, q3, _⟩ := open_rdStrs Tryd.underlying23 Tryd.underlying9 (by kernel_rfl) (by kernel_rfl) (d := y.1) (p := y.2) hy hwy
          obtain rfl : ss.length = len := by simpa using q1.1
          exact ⟨ss, q1, q2⟩
      obtain ⟨a, ha, sa⟩ := one c0 y0 h0 e0
      obtain ⟨b, hb', sb⟩ := one c1 y1 h1 e1
      exact ⟨a, b, k, c0, c1, rfl, ha, hb', sa, sb, hb.1, hb.2⟩
end Go.Proofs.YtinhjnbgblieeaaDoor
