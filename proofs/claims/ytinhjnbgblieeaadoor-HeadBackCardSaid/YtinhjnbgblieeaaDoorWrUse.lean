/- A writer in use: what each method leaves, in the form in which a walk goes on. -/
import Derived.Test.YtinhjnbgblieeaaDoorWireBytes
import Derived.Test.YtinhjnbgblieeaaDoorObjectLaw
namespace Go.Proofs.YtinhjnbgblieeaaDoor
open Go.RowKit
set_option linter.unusedVariables false
set_option linter.unusedSimpArgs false

theorem WrTo.use {w w' : World} {B g : Nat} {v : Value} {l l' : List UInt8} {e e' : Int} {en : Ending} (h : WrTo w B g v l' e' en w') (hg : B ≤ g) (hst : WrSt w B g v l e) :
    en = .returned (.tuple #[]) ∧ ∃ v', WrSt w' B g v' l' e' ∧ Below B w w' ∧ ∀ xb, xb < w.heap.size → xb ≠ g → v.ownBlock ≠ some xb → (w'.heap[xb]? = w.heap[xb]? ∧ v'.ownBlock ≠ some xb) := by
  have hb := hst.below' hg h
  obtain ⟨he, v', hs, hu, hv⟩ := h
  refine ⟨he, v', hs, hb, fun xb hx h1 h2 => ⟨hu.block xb hx (fun e => e.elim h1 h2), fun e => ?_⟩⟩
  rcases hv with hv | ⟨k, hk, hk2⟩
  · exact h2 (hv ▸ e)
  · rw [hk] at e; injection e with e; omega
theorem three_cells {w : World} {b : Nat} {x y z : Value} {t : TypeId} (h : w.heap[b]? = some (.cells #[x, y, z] t (0, 0))) : w.cell? ⟨b, 0, none⟩ = some x ∧ w.cell? ⟨b, 1, none⟩ = some y ∧ w.cell? ⟨b, 2, none⟩ = some z := by
  refine ⟨?_, ?_, ?_⟩ <;> simp [World.cell?, h]
theorem owns_elem {w : World} {base : Nat} {e : TypeId} {size : Nat} {v : Value} {n : Nat} {xs : List Value} (h : w.ownsRow base e size v n xs) {k : Nat} (hk : v.ownBlock = some k) : base ≤ k ∧ ∃ cs f, w.heap[k]? = some (.cells cs e f) := by
  rcases h.2 with ⟨rfl, _⟩ | ⟨g, cap, cur, rfl, hbg, hg, r⟩
  · cases hk
  · injection hk with hk
    subst hk
    exact ⟨hbg, _, _, hg⟩
theorem wText_enc {w : World} {B g : Nat} {v : Value} {l : List UInt8} (hst : WrSt w B g v l 0) (t : ByteArray) (ht : t.size ≤ 4096) (hl : l.length + 4105 ≤ 140737488355328) :
    Calls Tryd.prog 35 #[.pointer (some ⟨g, 0, none⟩), .string t] w (WrTo w B g v (l ++ encT t) 0) := wText_good hst t ht hl
theorem enc9 {n : Nat} (h : n < 4611686018427387904) : (enc n).length ≤ 9 := enc_len9 n h
theorem encT_length {s : ByteArray} (h : s.size ≤ 4096) : (encT s).length ≤ 4105 := by
  have := enc9 (n := s.size) (by omega)
  rw [encT, List.length_append, toList_length]; omega
end Go.Proofs.YtinhjnbgblieeaaDoor
