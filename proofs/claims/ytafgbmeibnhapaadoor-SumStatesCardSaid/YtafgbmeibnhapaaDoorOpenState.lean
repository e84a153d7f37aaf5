/- A state of a sum that comes in, opened. -/
import Derived.Test.YtafgbmeibnhapaaDoorSumStates
import Derived.Test.YtafgbmeibnhapaaDoorOpen
import Derived.ProofKit
import Derived.OpenShut
namespace Go.Proofs.YtafgbmeibnhapaaDoor
open Go.ChangeShapes Go.WideShapes Go.ChangeAt Go.RowKit
set_option linter.unusedVariables false

theorem isU_wf {n : Int} (h : (Lit.int .u32 n).wf = true) : isU n := by
  have := bounds_u32 h
  unfold isU; omega
theorem open_state {H : Type} {enc : TypeId × Value → H} {W : World} {base b0 : Nat} {sp : Nat → Bool} {held : Bool} {v : Value} {d : DataW H} {p : List MemPlace}
    (hv : Value.okWide Tryd.prog W .any b0 25 v) (h : DataW.Trod enc Tryd.prog W base sp held 25 v d p) : ∃ s : St, v = stV s ∧ s.heads.ok := by
  obtain ⟨cs, rfl, hsz⟩ := okWide_struct Tryd.underlying25 hv
  have hc : Tryd.prog.cellsOf 25 = 10 := by kernel_rfl
  have hc8 : Tryd.prog.cellsOf 23 = 8 := by kernel_rfl
  have hc1 : Tryd.prog.cellsOf 22 = 1 := by kernel_rfl
  have hcs : Tryd.prog.cellsOf 9 = 1 := by kernel_rfl
  have hci : Tryd.prog.cellsOf 3 = 1 := by kernel_rfl
  obtain ⟨l⟩ := cs
  match l, hsz.trans hc with
  | [c0, c1, c2, c3, c4, c5, c6, c7, c8, c9], _ =>
    obtain ⟨fuel, hf⟩ := h
    obtain ⟨xs, n, _, hx, _, hlen, hg⟩ := DataW.trod_struct Tryd.underlying25 hf
    match xs, hlen with
    | [y0, y1, y2], _ =>
      have h0' : DataW.trod enc Tryd.prog W base sp held n 23 (([c0, c1, c2, c3, c4, c5, c6, c7, c8, c9].drop (0)).take (Tryd.prog.cellsOf 23)) = some y0 := hg 0 _ rfl
      rw [hc8] at h0'
      have h0 : DataW.trod enc Tryd.prog W base sp held n 23 [c0, c1, c2, c3, c4, c5, c6, c7] = some y0 := h0'
      have h1' : DataW.trod enc Tryd.prog W base sp held n 9 (([c0, c1, c2, c3, c4, c5, c6, c7, c8, c9].drop (8)).take (Tryd.prog.cellsOf 9)) = some y1 := hg 1 _ rfl
      rw [hcs] at h1'
      have h1 : DataW.trod enc Tryd.prog W base sp held n 9 [c8] = some y1 := h1'
      have h2' : DataW.trod enc Tryd.prog W base sp held n 3 (([c0, c1, c2, c3, c4, c5, c6, c7, c8, c9].drop (9)).take (Tryd.prog.cellsOf 3)) = some y2 := hg 2 _ rfl
      rw [hci] at h2'
      have h2 : DataW.trod enc Tryd.prog W base sp held n 3 [c9] = some y2 := h2'
      obtain ⟨ys, m, _, _, _, hyl, hy⟩ := DataW.trod_array Tryd.underlying23 h0
      obtain ⟨s, hs, _, _⟩ := DataW.trod_string Tryd.underlying9 h1
      obtain ⟨k, hk, _, _⟩ := DataW.trod_int Tryd.underlying3 h2
      match ys, hyl with
      | [z0, z1, z2, z3, z4, z5, z6, z7], _ =>
        have q0' : DataW.trod enc Tryd.prog W base sp held m 22 (([c0, c1, c2, c3, c4, c5, c6, c7].drop (0 * Tryd.prog.cellsOf 22)).take (Tryd.prog.cellsOf 22)) = some z0 := hy 0 (by decide)
        rw [hc1] at q0'
        have q0 : DataW.trod enc Tryd.prog W base sp held m 22 [c0] = some z0 := q0'
        have q1' : DataW.trod enc Tryd.prog W base sp held m 22 (([c0, c1, c2, c3, c4, c5, c6, c7].drop (1 * Tryd.prog.cellsOf 22)).take (Tryd.prog.cellsOf 22)) = some z1 := hy 1 (by decide)
        rw [hc1] at q1'
        have q1 : DataW.trod enc Tryd.prog W base sp held m 22 [c1] = some z1 := q1'
        have q2' : DataW.trod enc Tryd.prog W base sp held m 22 (([c0, c1, c2, c3, c4, c5, c6, c7].drop (2 * Tryd.prog.cellsOf 22)).take (Tryd.prog.cellsOf 22)) = some z2 := hy 2 (by decide)
        rw [hc1] at q2'
        have q2 : DataW.trod enc Tryd.prog W base sp held m 22 [c2] = some z2 := q2'
        have q3' : DataW.trod enc Tryd.prog W base sp held m 22 (([c0, c1, c2, c3, c4, c5, c6, c7].drop (3 * Tryd.prog.cellsOf 22)).take (Tryd.prog.cellsOf 22)) = some z3 := hy 3 (by decide)
        rw [hc1] at q3'
        have q3 : DataW.trod enc Tryd.prog W base sp held m 22 [c3] = some z3 := q3'
        have q4' : DataW.trod enc Tryd.prog W base sp held m 22 (([c0, c1, c2, c3, c4, c5, c6, c7].drop (4 * Tryd.prog.cellsOf 22)).take (Tryd.prog.cellsOf 22)) = some z4 := hy 4 (by decide)
        rw [hc1] at q4'
        have q4 : DataW.trod enc Tryd.prog W base sp held m 22 [c4] = some z4 := q4'
        have q5' : DataW.trod enc Tryd.prog W base sp held m 22 (([c0, c1, c2, c3, c4, c5, c6, c7].drop (5 * Tryd.prog.cellsOf 22)).take (Tryd.prog.cellsOf 22)) = some z5 := hy 5 (by decide)
        rw [hc1] at q5'
        have q5 : DataW.trod enc Tryd.prog W base sp held m 22 [c5] = some z5 := q5'
        have q6' : DataW.trod enc Tryd.prog W base sp held m 22 (([c0, c1, c2, c3, c4, c5, c6, c7].drop (6 * Tryd.prog.cellsOf 22)).take (Tryd.prog.cellsOf 22)) = some z6 := hy 6 (by decide)
        rw [hc1] at q6'
        have q6 : DataW.trod enc Tryd.prog W base sp held m 22 [c6] = some z6 := q6'
        have q7' : DataW.trod enc Tryd.prog W base sp held m 22 (([c0, c1, c2, c3, c4, c5, c6, c7].drop (7 * Tryd.prog.cellsOf 22)).take (Tryd.prog.cellsOf 22)) = some z7 := hy 7 (by decide)
        rw [hc1] at q7'
        have q7 : DataW.trod enc Tryd.prog W base sp held m 22 [c7] = some z7 := q7'
        obtain ⟨a0, e0, _, f0⟩ := DataW.trod_int Tryd.underlying22 q0
        obtain ⟨a1, e1, _, f1⟩ := DataW.trod_int Tryd.underlying22 q1
        obtain ⟨a2, e2, _, f2⟩ := DataW.trod_int Tryd.underlying22 q2
        obtain ⟨a3, e3, _, f3⟩ := DataW.trod_int Tryd.underlying22 q3
        obtain ⟨a4, e4, _, f4⟩ := DataW.trod_int Tryd.underlying22 q4
        obtain ⟨a5, e5, _, f5⟩ := DataW.trod_int Tryd.underlying22 q5
        obtain ⟨a6, e6, _, f6⟩ := DataW.trod_int Tryd.underlying22 q6
        obtain ⟨a7, e7, _, f7⟩ := DataW.trod_int Tryd.underlying22 q7
        simp only [List.cons.injEq, and_true] at e0 e1 e2 e3 e4 e5 e6 e7 hs hk
        subst e0 e1 e2 e3 e4 e5 e6 e7 hs hk
        exact ⟨⟨⟨a0, a1, a2, a3, a4, a5, a6, a7⟩, s, k⟩, rfl, isU_wf f0, isU_wf f1, isU_wf f2, isU_wf f3, isU_wf f4, isU_wf f5, isU_wf f6, isU_wf f7⟩
end Go.Proofs.YtafgbmeibnhapaaDoor
