/- Slices of steps that can be read. -/
import Derived.Test.YtinhjnbgblieeaaDoorStp
import Derived.Test.YtinhjnbgblieeaaDoorGrow
namespace Go.Proofs.YtinhjnbgblieeaaDoor
open Go.RowKit
set_option linter.unusedVariables false
set_option linter.unusedSimpArgs false

/-- A step with the values of its rows. -/
structure Stv where
  s : Stp
  vw : Value
  vs : Value
def zeroStv : Stv := ⟨zeroStp, .slice none 0 0, .slice none 0 0⟩
def stvC (t : Stv) : List Value := [.string t.s.ref, .string t.s.old, .string t.s.new, t.vw, t.vs]
theorem stvC_len (t : Stv) : (stvC t).length = 5 := rfl
/-- A slice reads as a list of steps. -/
structure RdT (w : World) (v : Value) (L : List Stv) : Prop where
  row : rdG 5 stvC w v L
  sub : ∀ t ∈ L, rdI w t.vw t.s.who ∧ rdS w t.vs t.s.seals
def rdT (w : World) (v : Value) (l : List Stp) : Prop := ∃ L : List Stv, L.map Stv.s = l ∧ RdT w v L
theorem RdT.below {w w' : World} {v : Value} {L : List Stv} (h : RdT w v L) (hb : Below w.heap.size w w') : RdT w' v L :=
  ⟨h.row.below hb, fun t ht => ⟨(h.sub t ht).1.below hb, (h.sub t ht).2.below hb⟩⟩
theorem rdT.below {w w' : World} {v : Value} {l : List Stp} (h : rdT w v l) (hb : Below w.heap.size w w') : rdT w' v l := by
  obtain ⟨L, h1, h2⟩ := h
  exact ⟨L, h1, h2.below hb⟩
theorem rdT_nil (w : World) : rdT w (.slice none 0 0) [] := ⟨[], rfl, rdG_nil w, fun _ h => by cases h⟩
theorem rdT_form {w : World} {v : Value} {l : List Stp} (h : rdT w v l) : ∃ ao cap, v = .slice ao l.length cap := by
  obtain ⟨L, rfl, h1, _⟩ := h
  rw [List.length_map]
  exact rd_form h1
theorem rdT_len {w : World} {v : Value} {l : List Stp} (h : rdT w v l) : l.length ≤ 9223372036854775807 := by
  obtain ⟨L, rfl, h1, _⟩ := h
  rw [List.length_map]
  exact rdG_len h1
theorem stv_getD (L : List Stv) (k : Nat) : (L.getD k zeroStv).s = (L.map Stv.s).getD k zeroStp := by
  rw [List.getD, List.getD, List.getElem?_map]
  cases L[k]? <;> rfl
/-- The cells of an element, in the walk's spelling. -/
theorem RdT.at {w : World} {ao : Option Addr} {n cap : Nat} {L : List Stv} (h : RdT w (.slice ao n cap) L) {k : Nat} (hk : k < L.length) :
    ∃ b off, ao = some ⟨b, off, none⟩ ∧ w.cell? ⟨b, off + k * 5, none⟩ = some (.string (L.getD k zeroStv).s.ref) ∧ w.cell? ⟨b, off + k * 5 + 1, none⟩ = some (.string (L.getD k zeroStv).s.old) ∧ w.cell? ⟨b, off + k * 5 + 2, none⟩ = some (.string (L.getD k zeroStv).s.new) ∧ w.cell? ⟨b, off + k * 5 + 3, none⟩ = some (L.getD k zeroStv).vw ∧ w.cell? ⟨b, off + k * 5 + 4, none⟩ = some (L.getD k zeroStv).vs ∧
      rdI w (L.getD k zeroStv).vw (L.getD k zeroStv).s.who ∧ rdS w (L.getD k zeroStv).vs (L.getD k zeroStv).s.seals := by
  obtain ⟨b, off, h1, _, hc⟩ := rdG_at stvC_len (by decide) zeroStv h.row (by omega)
  have hm : L.getD k zeroStv ∈ L := by rw [List.getD, List.getElem?_eq_getElem hk]; exact List.getElem_mem hk
  refine ⟨b, off, h1, ?_, ?_, ?_, ?_, ?_, h.sub _ hm⟩
  · exact hc k hk 0 _ rfl
  · rw [Nat.add_assoc]; exact hc k hk 1 _ rfl
  · rw [Nat.add_assoc]; exact hc k hk 2 _ rfl
  · rw [Nat.add_assoc]; exact hc k hk 3 _ rfl
  · rw [Nat.add_assoc]; exact hc k hk 4 _ rfl
theorem size_step : (Tryd.prog.info? 25).map (·.size) = some 5 := by kernel_rfl
theorem rdT_to {w : World} {v : Value} {l : List Stp} (hr : rdT w v l) (n : Nat) (hn : n ≤ l.length) :
    ∃ v', (∀ w' : World, (Instr.sliceAt 53 v none (some (.int .i64 (n : Int))) none).run Tryd.prog w' = .ok v' w') ∧ rdT w v' (l.take n) := by
  obtain ⟨L, rfl, h1, h2⟩ := hr
  rw [List.length_map] at hn
  obtain ⟨v', h3, h4⟩ := rdG_to stvC_len Tryd.underlying53 size_step h1 n hn
  exact ⟨v', h3, L.take n, by rw [List.map_take], h4, fun t ht => h2 t (List.mem_of_mem_take ht)⟩
theorem rdT_from {w : World} {v : Value} {l : List Stp} (hr : rdT w v l) (n : Nat) (hn : n ≤ l.length) :
    ∃ v', (∀ w' : World, (Instr.sliceAt 53 v (some (.int .i64 (n : Int))) none none).run Tryd.prog w' = .ok v' w') ∧ rdT w v' (l.drop n) := by
  obtain ⟨L, rfl, h1, h2⟩ := hr
  rw [List.length_map] at hn
  obtain ⟨v', h3, h4⟩ := rdG_from stvC_len Tryd.underlying53 size_step h1 n hn
  exact ⟨v', h3, L.drop n, by rw [List.map_drop], h4, fun t ht => h2 t (List.mem_of_mem_drop ht)⟩
end Go.Proofs.YtinhjnbgblieeaaDoor
