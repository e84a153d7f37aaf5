/- Rows that lie apart. -/
import Derived.Test.YtalkheljejkpiaaDoorStore1
namespace Go.Proofs.YtalkheljejkpiaaDoor
open Go.RowKit
set_option linter.unusedVariables false
set_option linter.unusedSimpArgs false

theorem own_storeK {w w' : World} {base g : Nat} {e t : TypeId} {size : Nat} {v : Value} {n : Nat} {xs : List Value} {cs : Array Value} {fr : Nat × Nat} (h : w.ownsRow base e size v n xs) (hu : Upd (· = g) w w') (hg : w.heap[g]? = some (.cells cs t fr)) (hne : e ≠ t) : w'.ownsRow base e size v n xs :=
  owns_upd h hu (fun k hk e' => owns_ne h hg hne (e' ▸ hk))
theorem owns_apart {w w' : World} {base base2 : Nat} {e e2 : TypeId} {size size2 : Nat} {v v2 : Value} {n n2 : Nat} {xs xs2 : List Value} (h : w.ownsRow base e size v n xs) (h2 : w.ownsRow base2 e2 size2 v2 n2 xs2) (hu : Upd (fun k => v2.ownBlock = some k) w w') (hne : e ≠ e2) : w'.ownsRow base e size v n xs :=
  owns_upd h hu (fun k hk e' => by
    obtain ⟨_, cs, f, hg⟩ := owns_elem h2 e'
    exact owns_ne h hg hne hk)
theorem svs_appendP (a b : List ByteArray) : svs (a ++ b) = svs a ++ svs b := by simp [svs]
theorem rdS_updK {w w' : World} {v : Value} {l : List ByteArray} {b : Nat} (h : rdS w v l) (hu : Upd (fun i => i = b) w w') (hb : ∀ j u, w.cell? ⟨b, j, none⟩ = some u → ∀ s, u ≠ .string s) : rdS w' v l := by
  obtain ⟨h1, ao, cap, rfl, hle, hm, hz, hc⟩ := h
  refine ⟨h1, ao, cap, rfl, hle, hm, hz, fun a ha j u hj => ?_⟩
  have h0 := hc a ha j u hj
  refine cell_upd hu h0 (fun e => ?_)
  have hs := World.cell?_spot h0
  have hus : ∃ s, u = .string s := by
    have hm := List.mem_of_getElem? hj
    obtain ⟨x, _, hx⟩ := List.mem_map.1 hm
    exact ⟨x, hx.symm⟩
  obtain ⟨s, hs2⟩ := hus
  refine hb (a.add j).off u ?_ s hs2
  rw [← e, ← h0, ← hs]
theorem NewF.below {B : Nat} {w w' : World} {v v1 : Value} {l l1 : List Fil} (h : NewF B w v v1 l l1) (hb : Below w.heap.size w w') : NewF B w' v v1 l l1 := h.imp id (fun h => owns_below h hb)
end Go.Proofs.YtalkheljejkpiaaDoor
